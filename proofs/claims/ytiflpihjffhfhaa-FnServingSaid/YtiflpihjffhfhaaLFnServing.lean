/- FnServing: for every code the law returns true. No condition. -/
import Derived.Test.YtiflpihjffhfhaaDrawTC
import Derived.Test.YtiflpihjffhfhaaDrawL
import Derived.Test.YtiflpihjffhfhaaTermQ
namespace Go.Proofs.Ytiflpihjffhfhaa.lawFnServing
open Go.ChangeShapes Go.WideShapes Go.ChangeAt Go.RowKit

set_option maxRecDepth 100000 in
set_option maxHeartbeats 16000000 in
theorem walkL (v : Value) (bs : List Int) (w : World) (hv : SlR u8s 1 w 0 w.heap.size v bs) (hb : ∀ b ∈ bs, 0 ≤ b ∧ b ≤ 255) :
    Calls Try.prog 8 #[v] w fun e w' => e = .returned (.bool true) ∧ Below w.heap.size w w' := by
  have B := Below.refl w.heap.size w
  go_enter Try.func8, Try.ntmps8
  go_wp2_with fail
  refine (big_any v bs w 0 _ hv).mono ?_
  rintro e w0 ⟨rfl, rfl⟩
  by_cases hbig : 4096 < bs.length
  · have hd : decide (4096 < bs.length) = true := decide_eq_true hbig
    go_wp2_with fail
    go_ret
    exact ⟨rfl, B⟩
  have hd : decide (4096 < bs.length) = false := decide_eq_false hbig
  clear hbig
  go_wp2_with fail
  clear hd
  refine (DrawBusiestDay_any v bs w hv hb).mono ?_
  rintro e w1 ⟨u1, cs, rfl, s1, l1, hb1⟩
  have zw1 := hb1.size
  replace hv := SlR.bel hv hb1
  replace B := B.trans (hb1.mono B.size)
  clear hb1
  obtain ⟨A1, c1, rfl, _, _⟩ := s1.form
  go_wp2_with fail
  have HS := Lib.hid (fun e => serving_law (cs := cs) e)
  have HO := Lib.hid (fun e => over_law (cs := cs) e)
  refine (implBusiestDay_any _ cs w1 _ s1).mono ?_
  rintro e w2 ⟨rfl, hb2⟩
  have zw2 := hb2.size
  replace hv := SlR.bel hv hb2
  replace s1 := SlR.bel s1 hb2
  replace B := B.trans (hb2.mono B.size)
  clear hb2
  go_wp2_with fail
  refine (specBusiestDay_any _ cs w2 _ s1).mono ?_
  rintro e w3 ⟨rfl, hb3⟩
  have zw3 := hb3.size
  replace hv := SlR.bel hv hb3
  replace s1 := SlR.bel s1 hb3
  replace B := B.trans (hb3.mono B.size)
  clear hb3
  go_wp2_with fail
  generalize busiestF cs = BF at *
  refine (DrawServingOn_any v bs w3 hv hb).mono ?_
  rintro e w4 ⟨u2, xs, d, rfl, s2, l2, hb4⟩
  have zw4 := hb4.size
  replace hv := SlR.bel hv hb4
  replace s1 := SlR.bel s1 hb4
  replace B := B.trans (hb4.mono B.size)
  clear hb4
  obtain ⟨A2, c2, rfl, _, _⟩ := s2.form
  go_wp2_with fail
  refine (implServingOn_any _ xs d w4 _ s2).mono ?_
  rintro e w5 ⟨v3, rfl, o3, hb5⟩
  have zw5 := hb5.size
  replace hv := SlR.bel hv hb5
  replace s1 := SlR.bel s1 hb5
  replace s2 := SlR.bel s2 hb5
  replace B := B.trans (hb5.mono B.size)
  clear hb5
  have s3 := own_slI o3
  clear o3
  obtain ⟨A3, c3, rfl, _, _⟩ := s3.form
  go_wp2_with fail
  refine (specServingOn_any _ xs d w5 _ s2).mono ?_
  rintro e w6 ⟨v4, rfl, o4, hb6⟩
  have zw6 := hb6.size
  replace hv := SlR.bel hv hb6
  replace s1 := SlR.bel s1 hb6
  replace s2 := SlR.bel s2 hb6
  replace s3 := SlR.bel s3 hb6
  replace B := B.trans (hb6.mono B.size)
  clear hb6
  have s4 := own_slI o4
  clear o4 s2 hv
  obtain ⟨A4, c4, rfl, _, _⟩ := s4.form
  go_wp2_with fail
  generalize servingOnF xs d = SX at *
  refine (implOverServed_any _ cs w6 _ s1).mono ?_
  rintro e w7 ⟨v5, rfl, o5, hb7⟩
  have zw7 := hb7.size
  replace s1 := SlR.bel s1 hb7
  replace s3 := SlR.bel s3 hb7
  replace s4 := SlR.bel s4 hb7
  replace B := B.trans (hb7.mono B.size)
  clear hb7
  have s5 := own_slI o5
  clear o5
  obtain ⟨A5, c5, rfl, _, _⟩ := s5.form
  go_wp2_with fail
  refine (specOverServed_any _ cs w7 _ s1).mono ?_
  rintro e w8 ⟨v6, rfl, o6, hb8⟩
  have zw8 := hb8.size
  replace s1 := SlR.bel s1 hb8
  replace s3 := SlR.bel s3 hb8
  replace s4 := SlR.bel s4 hb8
  replace s5 := SlR.bel s5 hb8
  replace B := B.trans (hb8.mono B.size)
  clear hb8
  have s6 := own_slI o6
  clear o6
  obtain ⟨A6, c6, rfl, _, _⟩ := s6.form
  go_wp2_with fail
  have lo := overF_len cs
  generalize overF cs = OF at *
  refine (likeInts_same _ _ SX.1 w8 _ _ s3 s4).mono ?_
  rintro e w9 ⟨rfl, hb9⟩
  have zw9 := hb9.size
  replace s1 := SlR.bel s1 hb9
  replace s3 := SlR.bel s3 hb9
  replace s4 := SlR.bel s4 hb9
  replace s5 := SlR.bel s5 hb9
  replace s6 := SlR.bel s6 hb9
  replace B := B.trans (hb9.mono B.size)
  clear hb9
  clear s3 s4
  go_wp2_with fail
  refine (likeInts_same _ _ OF.1 w9 _ _ s5 s6).mono ?_
  rintro e w10 ⟨rfl, hb10⟩
  have zw10 := hb10.size
  replace s1 := SlR.bel s1 hb10
  replace s5 := SlR.bel s5 hb10
  replace s6 := SlR.bel s6 hb10
  replace B := B.trans (hb10.mono B.size)
  clear hb10
  clear s6
  by_cases e1 : OF.2 = 0
  · have k1 : (OF.2 == 0) = true := by simpa using e1
    replace HO := Lib.hid (HO.out e1)
    clear e1
    go_wp2_with fail
    go_loopw [20] (fun i wr => ∃ (k : Nat), i = .int .i64 k ∧ k ≤ OF.1.length ∧ Below w10.heap.size w10 wr) (fun i wr => OF.1.length - (intOf i).toNat)
    case atStart => exact ⟨0, rfl, Nat.zero_le _, Below.refl _ _⟩
    case round =>
      obtain ⟨k, rfl, hk, hbr⟩ := hrel
      have s1 := SlR.bel s1 hbr
      have s5 := SlR.bel s5 hbr
      have B := B.trans (hbr.mono B.size)
      by_cases hlt : k < OF.1.length
      · obtain ⟨x, hx⟩ := some_at hlt
        obtain ⟨p, y1, y2⟩ := HO.out x (List.mem_of_getElem? hx)
        obtain ⟨b, off, rfl, _, hbb, c0⟩ := s5.int_at hx
        clear hx
        have Y1 := Lib.hid y1
        clear y1
        go_wp2_with fail
        have C := implDaysServed_any _ cs x _ _ s1
        rw [Y1.out] at C
        refine C.mono ?_
        clear C
        rintro e w2 ⟨rfl, hb8⟩
        have k6 : ¬ p ≤ 60 := by omega
        clear c0
        go_wp2_with fail
        go_roundw
        case rel => exact ⟨k + 1, by go_num, hlt, hbr.trans (hb8.mono hbr.size)⟩
        case measure => simp [intOf]; omega
      · by_cases e2 : BF.2.2 = 0
        · obtain ⟨q1, q2, q3⟩ := HS.out e2
          have k2 : (BF.2.2 != 0) = false := by simp [e2]
          have Q3 := Lib.hid q3
          clear e2 q3 HS
          go_wp2_with fail
          refine (implServingOn_any _ cs BF.1 wr _ s1).mono ?_
          rintro e w11 ⟨v7, rfl, o7, hb11⟩
          have zw11 := hb11.size
          replace s1 := SlR.bel s1 hb11
          replace B := B.trans (hb11.mono B.size)
          clear hb11
          have s7 := own_slI o7
          clear o7
          generalize servingOnF cs BF.1 = SF at *
          obtain ⟨A7, c7, rfl, _, _⟩ := s7.form
          have k3 : (SF.2 == 0) = true := by simpa using q1
          have k4 : ((SF.1.length : Int) == BF.2.1) = true := by simpa using q2
          clear q1 q2
          go_wp2_with fail
          go_loopw [25] (fun i wr => ∃ (k : Nat), i = .int .i64 k ∧ k ≤ cs.length ∧ Below w11.heap.size w11 wr) (fun i wr => cs.length - (intOf i).toNat)
          case atStart => exact ⟨0, rfl, Nat.zero_le _, Below.refl _ _⟩
          case round =>
            obtain ⟨k, rfl, hk, hbr⟩ := hrel
            have s1 := SlR.bel s1 hbr
            have B := B.trans (hbr.mono B.size)
            by_cases hlt : k < cs.length
            · obtain ⟨x, hx⟩ := some_at hlt
              obtain ⟨y1, y2⟩ := Q3.out x (List.mem_of_getElem? hx)
              obtain ⟨b, off, rfl, _, hbb, c0, c1, c2⟩ := s1.T3_at hx
              clear hx
              go_wp2_with fail
              refine (implServingOn_any _ cs x.fin _ _ s1).mono ?_
              rintro e w2 ⟨v8, rfl, o8, hb8⟩
              have s8 := own_slI o8
              clear o8 c0 c1 c2
              generalize servingOnF cs x.fin = XF at *
              obtain ⟨A8, c8, rfl, _, _⟩ := s8.form
              have k5 : (XF.2 != 0) = false := by simp [y1]
              have k6 : ¬ BF.2.1 < (XF.1.length : Int) := by omega
              clear y1
              go_wp2_with fail
              go_roundw
              case rel => exact ⟨k + 1, by go_num, hlt, hbr.trans (hb8.mono hbr.size)⟩
              case measure => simp [intOf]; omega
            · go_wp2_with fail
              go_ret
              exact ⟨rfl, B⟩
        · have k2 : (BF.2.2 != 0) = true := by simpa [bne] using e2
          clear e2
          go_wp2_with fail
          go_ret
          exact ⟨rfl, B⟩
  · have k1 : (OF.2 == 0) = false := by simpa using e1
    clear e1 HO
    go_wp2_with fail
    go_loopw [20] (fun i wr => ∃ (k : Nat), i = .int .i64 k ∧ k ≤ OF.1.length ∧ Below w10.heap.size w10 wr) (fun i wr => OF.1.length - (intOf i).toNat)
    case atStart => exact ⟨0, rfl, Nat.zero_le _, Below.refl _ _⟩
    case round =>
      obtain ⟨k, rfl, hk, hbr⟩ := hrel
      have s1 := SlR.bel s1 hbr
      have s5 := SlR.bel s5 hbr
      have B := B.trans (hbr.mono B.size)
      by_cases e2 : BF.2.2 = 0
      · obtain ⟨q1, q2, q3⟩ := HS.out e2
        have k2 : (BF.2.2 != 0) = false := by simp [e2]
        have Q3 := Lib.hid q3
        clear e2 q3 HS
        go_wp2_with fail
        refine (implServingOn_any _ cs BF.1 wr _ s1).mono ?_
        rintro e w11 ⟨v7, rfl, o7, hb11⟩
        have zw11 := hb11.size
        replace s1 := SlR.bel s1 hb11
        replace B := B.trans (hb11.mono B.size)
        clear hb11
        have s7 := own_slI o7
        clear o7
        generalize servingOnF cs BF.1 = SF at *
        obtain ⟨A7, c7, rfl, _, _⟩ := s7.form
        have k3 : (SF.2 == 0) = true := by simpa using q1
        have k4 : ((SF.1.length : Int) == BF.2.1) = true := by simpa using q2
        clear q1 q2
        go_wp2_with fail
        go_loopw [25] (fun i wr => ∃ (k : Nat), i = .int .i64 k ∧ k ≤ cs.length ∧ Below w11.heap.size w11 wr) (fun i wr => cs.length - (intOf i).toNat)
        case atStart => exact ⟨0, rfl, Nat.zero_le _, Below.refl _ _⟩
        case round =>
          obtain ⟨k, rfl, hk, hbr⟩ := hrel
          have s1 := SlR.bel s1 hbr
          have B := B.trans (hbr.mono B.size)
          by_cases hlt : k < cs.length
          · obtain ⟨x, hx⟩ := some_at hlt
            obtain ⟨y1, y2⟩ := Q3.out x (List.mem_of_getElem? hx)
            obtain ⟨b, off, rfl, _, hbb, c0, c1, c2⟩ := s1.T3_at hx
            clear hx
            go_wp2_with fail
            refine (implServingOn_any _ cs x.fin _ _ s1).mono ?_
            rintro e w2 ⟨v8, rfl, o8, hb8⟩
            have s8 := own_slI o8
            clear o8 c0 c1 c2
            generalize servingOnF cs x.fin = XF at *
            obtain ⟨A8, c8, rfl, _, _⟩ := s8.form
            have k5 : (XF.2 != 0) = false := by simp [y1]
            have k6 : ¬ BF.2.1 < (XF.1.length : Int) := by omega
            clear y1
            go_wp2_with fail
            go_roundw
            case rel => exact ⟨k + 1, by go_num, hlt, hbr.trans (hb8.mono hbr.size)⟩
            case measure => simp [intOf]; omega
          · go_wp2_with fail
            go_ret
            exact ⟨rfl, B⟩
      · have k2 : (BF.2.2 != 0) = true := by simpa [bne] using e2
        clear e2
        go_wp2_with fail
        go_ret
        exact ⟨rfl, B⟩

theorem walk (v0 : Value) (w : World) (g0 : ∃ bs, SlR u8s 1 w 0 w.heap.size v0 bs ∧ ∀ b ∈ bs, 0 ≤ b ∧ b ≤ 255) :
    Calls Try.prog 8 #[v0] w fun e w' => e = .returned (.bool true) ∧ Below w.heap.size w w' := by
  obtain ⟨bs, h, hb⟩ := g0
  exact walkL v0 bs w h hb


theorem own : ownKnob Try.prog.godebug = none := by kernel_rfl
theorem laidOut : laidOutB Try.prog = true := by kernel_rfl

set_option maxRecDepth 100000 in
theorem lifted (os : Os) (started : os.Started) (H : Type) (enc : TypeId × Value → H) :
    ReturnsInHanded {} Try.checked os 8 .any (Rows.fnServingSpec.pre6 enc Try.prog Try.f8 Rows.fnServingRow.domain false) (Rows.fnServingSpec.post enc Try.prog Try.f8 false true false false) := by
  refine returnsInHanded_of_change (C := Try.checked) own started (by kernel_rfl) Try.func8
    (ChangeSpec.witness6 (enc := enc) (C := Try.checked) false ⟨#[], #[.slice none 0 0], []⟩ 8 (by kernel_rfl) (by kernel_rfl) (by kernel_rfl) (by kernel_rfl)) ?_
  intro W base args ds gs before hval0 hW hcnd _
  have hval : ∀ (j : Nat) t v, Try.f8.params[j]? = some t → args[j]? = some v → Value.okWide Try.prog W .any base t v := hval0
  have hW' := hW
  obtain ⟨p, q, hA0, hV, rfl, hfz, hnd⟩ := hW
  have hA : DataW.TrodAll enc Try.prog W 0 (fun _ => true) true Try.f8.params.toList args.toList ds p := hA0
  rw [Try.params8] at hA hval
  obtain ⟨v0, vs0, d0, ds0, p0, q0, hargs, rfl, rfl, h0, r0⟩ := trodAll_cons hA
  obtain ⟨rfl, rfl, rfl⟩ := trodAll_nil r0
  obtain rfl : args = #[v0] := by cases args; simp_all
  obtain ⟨rfl, rfl⟩ := trodVars_none hV
  have lt0 : ∀ x ∈ p0, x.block < W.heap.size := by obtain ⟨m, hm⟩ := h0; exact DataW.trod_lt m _ _ _ hm
  have g0 := open_ByteS (hval 0 22 v0 rfl rfl) h0
  clear hA0 hval0
  refine (walk v0 W g0).mono fun e W' ⟨he, bel⟩ => ?_
  subst he
  exact ⟨_, rfl, _, _, _, [], _, [], hW', trodAll_mk1 (shut_bool Try.underlying4 _), (trodAll_cons_mk (Below.trod laidOut (by kernel_rfl) (of_decide_eq_true (by kernel_rfl)) h0 bel lt0) trodAll_mk0), rfl, bel.frame _, fun h => by cases h⟩

theorem over : Rows.fnServingRow.holds Try.pinned (OpenSpec.ofChange Rows.fnServingSpec) :=
  OpenClaim.holds_of_wide 8 Try.f8 rfl rfl rfl rfl rfl rfl rfl ⟨rfl, rfl, rfl, rfl, rfl⟩ rfl rfl rfl rfl rfl (by kernel_rfl) Try.func8 (by kernel_rfl)
    (of_decide_eq_true (by kernel_rfl)) (by unfold Func.isWrapper; first | (rw [if_pos (by decide +kernel)]; kernel_rfl) | (rw [if_neg (by decide +kernel)]; exact ⟨rfl, rfl⟩))
    (fun os started H enc _ => lifted os started H enc)

theorem proved : Rows.FnServingSaid := over
#print axioms proved
end Go.Proofs.Ytiflpihjffhfhaa.lawFnServing
