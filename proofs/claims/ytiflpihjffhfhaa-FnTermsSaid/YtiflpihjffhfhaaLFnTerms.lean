/- FnTerms: for every code the law returns true. No condition. -/
import Derived.Test.YtiflpihjffhfhaaDrawTC
import Derived.Test.YtiflpihjffhfhaaDrawL
import Derived.Test.YtiflpihjffhfhaaTermP
namespace Go.Proofs.Ytiflpihjffhfhaa.lawFnTerms
open Go.ChangeShapes Go.WideShapes Go.ChangeAt Go.RowKit
set_option maxHeartbeats 1000000 in
theorem likeTerms_same (u v : Value) (xs : List T3) (w : World) (lo lo' : Nat) (ha : SlT3 w lo w.heap.size u xs) (hb : SlT3 w lo' w.heap.size v xs) :
    Calls Try.prog 71 #[u, v] w fun e w' => e = .returned (.bool true) ∧ Below w.heap.size w w' := by
  obtain ⟨A, c, rfl, hc1, hc2⟩ := ha.form
  obtain ⟨A', c', rfl, hc1', hc2'⟩ := hb.form
  go_enter Try.func71, Try.ntmps71
  go_wp2_with fail
  go_loopw [5] (fun i wr => ∃ (k : Nat), i = .int .i64 k ∧ k ≤ xs.length ∧ Below w.heap.size w wr) (fun i wr => xs.length - (intOf i).toNat)
  case atStart => exact ⟨0, rfl, Nat.zero_le _, Below.refl _ _⟩
  case round =>
    obtain ⟨k, rfl, hk, hbr⟩ := hrel
    by_cases hlt : k < xs.length
    · obtain ⟨x, hx⟩ := some_at hlt
      obtain ⟨b, off, rfl, _, hbb, c0, c1, c2⟩ := SlR.T3_at ((ha.below hbr (Nat.le_refl _)).more (Nat.le_refl _) hbr.size) hx
      obtain ⟨b', off', rfl, _, hbb', d0, d1, d2⟩ := SlR.T3_at ((hb.below hbr (Nat.le_refl _)).more (Nat.le_refl _) hbr.size) hx
      clear hx
      go_wp2_with fail
      refine wp_region_ext (by kernel_rfl) (by kernel_rfl) ?_
      repeat (go_big_quiet_step (fail))
      refine wpQuiet_nil ?_
      intro w2 hb2
      go_wp2_with fail
      go_roundw
      case rel => exact ⟨k + 1, by go_num, hlt, hbr.trans (hb2.mono hbr.size)⟩
      case measure => simp [intOf]; omega
    · go_wp2_with fail
      go_ret
      exact ⟨rfl, hbr⟩

set_option maxRecDepth 100000 in
set_option maxHeartbeats 16000000 in
theorem walkL (v : Value) (bs : List Int) (w : World) (hv : SlR u8s 1 w 0 w.heap.size v bs) (hb : ∀ b ∈ bs, 0 ≤ b ∧ b ≤ 255) :
    Calls Try.prog 7 #[v] w fun e w' => e = .returned (.bool true) ∧ Below w.heap.size w w' := by
  have B := Below.refl w.heap.size w
  go_enter Try.func7, Try.ntmps7
  go_wp2_with fail
  refine (big_any v bs w 0 _ hv).mono ?_
  rintro e w0 ⟨rfl, rfl⟩
  by_cases hbig : 4096 < bs.length
  · have hd : decide (4096 < bs.length) = true := decide_eq_true hbig
    go_wp2_with fail
    go_ret
    exact ⟨rfl, B⟩
  have hd : decide (4096 < bs.length) = false := decide_eq_false hbig
  clear hbig
  go_wp2_with fail
  clear hd
  refine (DrawRestedFrom_any v bs w hv hb).mono ?_
  rintro e w1 ⟨u1, cs, n, d, rfl, s1, l1, hb1⟩
  have zw1 := hb1.size
  replace hv := SlR.bel hv hb1
  replace B := B.trans (hb1.mono B.size)
  clear hb1
  obtain ⟨A1, c1, rfl, _, _⟩ := s1.form
  go_wp2_with fail
  have HR := Lib.hid (fun e => terms_rest (cs := cs) (n := n) (d := d) e)
  refine (implRestedFrom_any _ cs n d w1 _ s1).mono ?_
  rintro e w2 ⟨rfl, hb2⟩
  have zw2 := hb2.size
  replace hv := SlR.bel hv hb2
  replace s1 := SlR.bel s1 hb2
  replace B := B.trans (hb2.mono B.size)
  clear hb2
  go_wp2_with fail
  refine (specRestedFrom_any _ cs n d w2 _ s1).mono ?_
  rintro e w3 ⟨rfl, hb3⟩
  have zw3 := hb3.size
  replace hv := SlR.bel hv hb3
  replace s1 := SlR.bel s1 hb3
  replace B := B.trans (hb3.mono B.size)
  clear hb3
  go_wp2_with fail
  generalize restedFromF cs n d = RF at *
  refine (DrawIsRested_any v bs w3 hv hb).mono ?_
  rintro e w4 ⟨u2, xs, n2, d2, rfl, s2, l2, hb4⟩
  have zw4 := hb4.size
  replace hv := SlR.bel hv hb4
  replace s1 := SlR.bel s1 hb4
  replace B := B.trans (hb4.mono B.size)
  clear hb4
  obtain ⟨A2, c2, rfl, _, _⟩ := s2.form
  go_wp2_with fail
  refine (implIsRested_any _ xs n2 d2 w4 _ s2).mono ?_
  rintro e w5 ⟨rfl, hb5⟩
  have zw5 := hb5.size
  replace hv := SlR.bel hv hb5
  replace s1 := SlR.bel s1 hb5
  replace s2 := SlR.bel s2 hb5
  replace B := B.trans (hb5.mono B.size)
  clear hb5
  go_wp2_with fail
  refine (specIsRested_any _ xs n2 d2 w5 _ s2).mono ?_
  rintro e w6 ⟨rfl, hb6⟩
  have zw6 := hb6.size
  replace hv := SlR.bel hv hb6
  replace s1 := SlR.bel s1 hb6
  replace s2 := SlR.bel s2 hb6
  replace B := B.trans (hb6.mono B.size)
  clear hb6
  go_wp2_with fail
  generalize isRestedF xs n2 d2 = IR at *
  clear s2
  refine (DrawAddTerm_any v bs w6 hv hb).mono ?_
  rintro e w7 ⟨u3, ys, t, rfl, s3, l3, hb7⟩
  have zw7 := hb7.size
  replace hv := SlR.bel hv hb7
  replace s1 := SlR.bel s1 hb7
  replace B := B.trans (hb7.mono B.size)
  clear hb7
  obtain ⟨A3, c3, rfl, _, _⟩ := s3.form
  go_wp2_with fail
  have bT := Blk.new w7 65 #[.int .i64 t.num, .int .i64 t.beg, .int .i64 t.fin]
  have hb8 : Below w7.heap.size w7 (w7.alloc (.cells #[.int .i64 t.num, .int .i64 t.beg, .int .i64 t.fin] 65)) := (Below.refl _ _).alloc (Nat.le_refl _) _
  generalize (w7.alloc (.cells #[.int .i64 t.num, .int .i64 t.beg, .int .i64 t.fin] 65)) = w8 at *
  have zw8 := hb8.size
  replace hv := SlR.bel hv hb8
  replace s1 := SlR.bel s1 hb8
  replace s3 := SlR.bel s3 hb8
  replace B := B.trans (hb8.mono B.size)
  clear hb8
  have HA := Lib.hid (fun e => terms_add (cs := ys) (t := t) e)
  have hlen := addTermF_len ys t
  refine (implAddTerm_any _ ys t w8 _ s3).mono ?_
  rintro e w9 ⟨v4, rfl, o4, hb9⟩
  have zw9 := hb9.size
  replace hv := SlR.bel hv hb9
  replace s1 := SlR.bel s1 hb9
  replace s3 := SlR.bel s3 hb9
  replace bT := bT.below' hb9
  replace B := B.trans (hb9.mono B.size)
  clear hb9
  have s4 := own_slT3 o4
  clear o4
  obtain ⟨A4, c4, rfl, _, _⟩ := s4.form
  obtain ⟨d0, d1, d2⟩ := r3_cells bT
  go_wp2_with fail
  clear d0 d1 d2
  refine (specAddTerm_any _ ys t w9 _ s3).mono ?_
  rintro e w10 ⟨v5, rfl, o5, hb10⟩
  have zw10 := hb10.size
  replace hv := SlR.bel hv hb10
  replace s1 := SlR.bel s1 hb10
  replace s3 := SlR.bel s3 hb10
  replace s4 := SlR.bel s4 hb10
  replace bT := bT.below' hb10
  replace B := B.trans (hb10.mono B.size)
  clear hb10
  have s5 := own_slT3 o5
  clear o5
  obtain ⟨A5, c5, rfl, _, _⟩ := s5.form
  go_wp2_with fail
  refine (DrawDaysServed_any v bs w10 hv hb).mono ?_
  rintro e w11 ⟨u6, zs, m, rfl, s6, l6, hb11⟩
  have zw11 := hb11.size
  replace hv := SlR.bel hv hb11
  replace s1 := SlR.bel s1 hb11
  replace s3 := SlR.bel s3 hb11
  replace s4 := SlR.bel s4 hb11
  replace s5 := SlR.bel s5 hb11
  replace bT := bT.below' hb11
  replace B := B.trans (hb11.mono B.size)
  clear hb11
  obtain ⟨A6, c6, rfl, _, _⟩ := s6.form
  go_wp2_with fail
  refine (implDaysServed_any _ zs m w11 _ s6).mono ?_
  rintro e w12 ⟨rfl, hb12⟩
  have zw12 := hb12.size
  replace hv := SlR.bel hv hb12
  replace s1 := SlR.bel s1 hb12
  replace s3 := SlR.bel s3 hb12
  replace s4 := SlR.bel s4 hb12
  replace s5 := SlR.bel s5 hb12
  replace s6 := SlR.bel s6 hb12
  replace bT := bT.below' hb12
  replace B := B.trans (hb12.mono B.size)
  clear hb12
  go_wp2_with fail
  refine (specDaysServed_any _ zs m w12 _ s6).mono ?_
  rintro e w13 ⟨rfl, hb13⟩
  have zw13 := hb13.size
  replace hv := SlR.bel hv hb13
  replace s1 := SlR.bel s1 hb13
  replace s3 := SlR.bel s3 hb13
  replace s4 := SlR.bel s4 hb13
  replace s5 := SlR.bel s5 hb13
  replace s6 := SlR.bel s6 hb13
  replace bT := bT.below' hb13
  replace B := B.trans (hb13.mono B.size)
  clear hb13
  go_wp2_with fail
  generalize daysServedF zs m = DS at *
  refine (likeTerms_same _ _ (addTermF ys t).1 w13 _ _ s4 s5).mono ?_
  rintro e w14 ⟨rfl, hb14⟩
  have zw14 := hb14.size
  replace hv := SlR.bel hv hb14
  replace s1 := SlR.bel s1 hb14
  replace s3 := SlR.bel s3 hb14
  replace s4 := SlR.bel s4 hb14
  replace s5 := SlR.bel s5 hb14
  replace s6 := SlR.bel s6 hb14
  replace bT := bT.below' hb14
  replace B := B.trans (hb14.mono B.size)
  clear hb14
  clear s5
  go_wp2_with fail
  refine (implAreTerms_any _ zs w14 _ s6).mono ?_
  rintro e w15 ⟨rfl, hb15⟩
  have zw15 := hb15.size
  replace hv := SlR.bel hv hb15
  replace s1 := SlR.bel s1 hb15
  replace s3 := SlR.bel s3 hb15
  replace s4 := SlR.bel s4 hb15
  replace s6 := SlR.bel s6 hb15
  replace bT := bT.below' hb15
  replace B := B.trans (hb15.mono B.size)
  clear hb15
  go_wp2_with fail
  refine (specAreTerms_any _ zs w15 _ s6).mono ?_
  rintro e w16 ⟨rfl, hb16⟩
  have zw16 := hb16.size
  replace hv := SlR.bel hv hb16
  replace s1 := SlR.bel s1 hb16
  replace s3 := SlR.bel s3 hb16
  replace s4 := SlR.bel s4 hb16
  replace s6 := SlR.bel s6 hb16
  replace bT := bT.below' hb16
  replace B := B.trans (hb16.mono B.size)
  clear hb16
  clear s6 hv
  by_cases e1 : (addTermF ys t).2 = 0
  · obtain ⟨p, p1, p2, p3, p4, p5, p6⟩ := HA.out e1
    have k1 : ((addTermF ys t).2 == 0) = true := by simpa using e1
    have P5 := Lib.hid p5
    have P6 := Lib.hid p6
    clear p5 p6 e1 HA
    obtain ⟨d0, d1, d2⟩ := r3_cells bT
    go_wp2_with fail
    clear d0 d1 d2
    have C17 := implDaysServed_any _ ys t.num w16 _ s3
    rw [P5.out] at C17
    refine C17.mono ?_
    clear C17
    rintro e w17 ⟨rfl, hb17⟩
    have zw17 := hb17.size
    replace s1 := SlR.bel s1 hb17
    replace s3 := SlR.bel s3 hb17
    replace s4 := SlR.bel s4 hb17
    replace bT := bT.below' hb17
    replace B := B.trans (hb17.mono B.size)
    clear hb17
    obtain ⟨d0, d1, d2⟩ := r3_cells bT
    go_wp2_with fail
    clear d0 d1 d2
    have C18 := implDaysServed_any _ (addTermF ys t).1 t.num w17 _ s4
    rw [P6.out] at C18
    refine C18.mono ?_
    clear C18
    rintro e w18 ⟨rfl, hb18⟩
    have zw18 := hb18.size
    replace s1 := SlR.bel s1 hb18
    replace s3 := SlR.bel s3 hb18
    replace s4 := SlR.bel s4 hb18
    replace bT := bT.below' hb18
    replace B := B.trans (hb18.mono B.size)
    clear hb18
    obtain ⟨d0, d1, d2⟩ := r3_cells bT
    by_cases e2 : RF.2 = 0
    · obtain ⟨r0, r1, r2, r3, r4⟩ := HR.out e2
      have k2 : (RF.2 != 0) = false := by simp [e2]
      have E2 := Lib.hid e2
      have R3 := Lib.hid r3
      have R4 := Lib.hid r4
      clear e2 r3 r4 HR
      go_wp2_with fail
      have C19 := implIsRested_any _ cs n RF.1 w18 _ s1
      rw [R3.out] at C19
      refine C19.mono ?_
      clear C19
      rintro e w19 ⟨rfl, hb19⟩
      have zw19 := hb19.size
      replace s1 := SlR.bel s1 hb19
      replace s3 := SlR.bel s3 hb19
      replace s4 := SlR.bel s4 hb19
      replace bT := bT.below' hb19
      replace B := B.trans (hb19.mono B.size)
      clear hb19
      by_cases e3 : RF.1 = d
      · have k3 : (RF.1 == d) = true := by simpa using e3
        have E3 := Lib.hid e3
        clear e3
        go_wp2_with fail
        go_ret
        exact ⟨rfl, B⟩
      · have k3 : (RF.1 == d) = false := by simpa using e3
        have R5 := Lib.hid (R4.out e3)
        clear e3 R4
        go_wp2_with fail
        have C20 := implIsRested_any _ cs n (RF.1 - 1) w19 _ s1
        rw [R5.out] at C20
        refine C20.mono ?_
        clear C20
        rintro e w20 ⟨rfl, hb20⟩
        have zw20 := hb20.size
        replace s1 := SlR.bel s1 hb20
        replace s3 := SlR.bel s3 hb20
        replace s4 := SlR.bel s4 hb20
        replace bT := bT.below' hb20
        replace B := B.trans (hb20.mono B.size)
        clear hb20
        go_wp2_with fail
        go_ret
        exact ⟨rfl, B⟩
    · have k2 : (RF.2 != 0) = true := by simpa [bne] using e2
      clear e2
      go_wp2_with fail
      go_ret
      exact ⟨rfl, B⟩
  · have k1 : ((addTermF ys t).2 == 0) = false := by simpa using e1
    clear e1 HA
    by_cases e2 : RF.2 = 0
    · obtain ⟨r0, r1, r2, r3, r4⟩ := HR.out e2
      have k2 : (RF.2 != 0) = false := by simp [e2]
      have E2 := Lib.hid e2
      have R3 := Lib.hid r3
      have R4 := Lib.hid r4
      clear e2 r3 r4 HR
      go_wp2_with fail
      have C17 := implIsRested_any _ cs n RF.1 w16 _ s1
      rw [R3.out] at C17
      refine C17.mono ?_
      clear C17
      rintro e w17 ⟨rfl, hb17⟩
      have zw17 := hb17.size
      replace s1 := SlR.bel s1 hb17
      replace s3 := SlR.bel s3 hb17
      replace s4 := SlR.bel s4 hb17
      replace bT := bT.below' hb17
      replace B := B.trans (hb17.mono B.size)
      clear hb17
      by_cases e3 : RF.1 = d
      · have k3 : (RF.1 == d) = true := by simpa using e3
        have E3 := Lib.hid e3
        clear e3
        go_wp2_with fail
        go_ret
        exact ⟨rfl, B⟩
      · have k3 : (RF.1 == d) = false := by simpa using e3
        have R5 := Lib.hid (R4.out e3)
        clear e3 R4
        go_wp2_with fail
        have C18 := implIsRested_any _ cs n (RF.1 - 1) w17 _ s1
        rw [R5.out] at C18
        refine C18.mono ?_
        clear C18
        rintro e w18 ⟨rfl, hb18⟩
        have zw18 := hb18.size
        replace s1 := SlR.bel s1 hb18
        replace s3 := SlR.bel s3 hb18
        replace s4 := SlR.bel s4 hb18
        replace bT := bT.below' hb18
        replace B := B.trans (hb18.mono B.size)
        clear hb18
        go_wp2_with fail
        go_ret
        exact ⟨rfl, B⟩
    · have k2 : (RF.2 != 0) = true := by simpa [bne] using e2
      clear e2
      go_wp2_with fail
      go_ret
      exact ⟨rfl, B⟩

theorem walk (v0 : Value) (w : World) (g0 : ∃ bs, SlR u8s 1 w 0 w.heap.size v0 bs ∧ ∀ b ∈ bs, 0 ≤ b ∧ b ≤ 255) :
    Calls Try.prog 7 #[v0] w fun e w' => e = .returned (.bool true) ∧ Below w.heap.size w w' := by
  obtain ⟨bs, h, hb⟩ := g0
  exact walkL v0 bs w h hb


theorem own : ownKnob Try.prog.godebug = none := by kernel_rfl
theorem laidOut : laidOutB Try.prog = true := by kernel_rfl

set_option maxRecDepth 100000 in
theorem lifted (os : Os) (started : os.Started) (H : Type) (enc : TypeId × Value → H) :
    ReturnsInHanded {} Try.checked os 7 .any (Rows.fnTermsSpec.pre6 enc Try.prog Try.f7 Rows.fnTermsRow.domain false) (Rows.fnTermsSpec.post enc Try.prog Try.f7 false true false false) := by
  refine returnsInHanded_of_change (C := Try.checked) own started (by kernel_rfl) Try.func7
    (ChangeSpec.witness6 (enc := enc) (C := Try.checked) false ⟨#[], #[.slice none 0 0], []⟩ 8 (by kernel_rfl) (by kernel_rfl) (by kernel_rfl) (by kernel_rfl)) ?_
  intro W base args ds gs before hval0 hW hcnd _
  have hval : ∀ (j : Nat) t v, Try.f7.params[j]? = some t → args[j]? = some v → Value.okWide Try.prog W .any base t v := hval0
  have hW' := hW
  obtain ⟨p, q, hA0, hV, rfl, hfz, hnd⟩ := hW
  have hA : DataW.TrodAll enc Try.prog W 0 (fun _ => true) true Try.f7.params.toList args.toList ds p := hA0
  rw [Try.params7] at hA hval
  obtain ⟨v0, vs0, d0, ds0, p0, q0, hargs, rfl, rfl, h0, r0⟩ := trodAll_cons hA
  obtain ⟨rfl, rfl, rfl⟩ := trodAll_nil r0
  obtain rfl : args = #[v0] := by cases args; simp_all
  obtain ⟨rfl, rfl⟩ := trodVars_none hV
  have lt0 : ∀ x ∈ p0, x.block < W.heap.size := by obtain ⟨m, hm⟩ := h0; exact DataW.trod_lt m _ _ _ hm
  have g0 := open_ByteS (hval 0 22 v0 rfl rfl) h0
  clear hA0 hval0
  refine (walk v0 W g0).mono fun e W' ⟨he, bel⟩ => ?_
  subst he
  exact ⟨_, rfl, _, _, _, [], _, [], hW', trodAll_mk1 (shut_bool Try.underlying4 _), (trodAll_cons_mk (Below.trod laidOut (by kernel_rfl) (of_decide_eq_true (by kernel_rfl)) h0 bel lt0) trodAll_mk0), rfl, bel.frame _, fun h => by cases h⟩

theorem over : Rows.fnTermsRow.holds Try.pinned (OpenSpec.ofChange Rows.fnTermsSpec) :=
  OpenClaim.holds_of_wide 7 Try.f7 rfl rfl rfl rfl rfl rfl rfl ⟨rfl, rfl, rfl, rfl, rfl⟩ rfl rfl rfl rfl rfl (by kernel_rfl) Try.func7 (by kernel_rfl)
    (of_decide_eq_true (by kernel_rfl)) (by unfold Func.isWrapper; first | (rw [if_pos (by decide +kernel)]; kernel_rfl) | (rw [if_neg (by decide +kernel)]; exact ⟨rfl, rfl⟩))
    (fun os started H enc _ => lifted os started H enc)

theorem proved : Rows.FnTermsSaid := over
#print axioms proved
end Go.Proofs.Ytiflpihjffhfhaa.lawFnTerms
