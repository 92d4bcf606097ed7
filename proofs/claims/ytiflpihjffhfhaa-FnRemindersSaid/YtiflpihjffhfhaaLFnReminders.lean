/- FnReminders: for every code the law returns true. No condition. -/
import Derived.Test.YtiflpihjffhfhaaDrawSB
import Derived.Test.YtiflpihjffhfhaaDrawL
import Derived.Test.YtiflpihjffhfhaaSumC
namespace Go.Proofs.Ytiflpihjffhfhaa.lawFnReminders
open Go.ChangeShapes Go.WideShapes Go.ChangeAt Go.RowKit
theorem SlR.cast {α : Type} {f : α → List Value} {s lo hi : Nat} {w : World} {v : Value} {xs ys : List α} (h : SlR f s w lo hi v xs) (e : xs = ys) : SlR f s w lo hi v ys := by subst e; exact h

set_option maxRecDepth 100000 in
set_option maxHeartbeats 16000000 in
theorem walkL (v : Value) (bs : List Int) (w : World) (hv : SlR u8s 1 w 0 w.heap.size v bs) (hb : ∀ b ∈ bs, 0 ≤ b ∧ b ≤ 255) :
    Calls Try.prog 5 #[v] w fun e w' => e = .returned (.bool true) ∧ Below w.heap.size w w' := by
  have B := Below.refl w.heap.size w
  go_enter Try.func5, Try.ntmps5
  go_wp2_with fail
  refine (big_any v bs w 0 _ hv).mono ?_
  rintro e w0 ⟨rfl, rfl⟩
  by_cases hbig : 4096 < bs.length
  · have hd : decide (4096 < bs.length) = true := decide_eq_true hbig
    go_wp2_with fail
    go_ret
    exact ⟨rfl, B⟩
  have hd : decide (4096 < bs.length) = false := decide_eq_false hbig
  clear hbig
  go_wp2_with fail
  clear hd
  refine (DrawRemindersOn_any v bs w hv hb).mono ?_
  rintro e w1 ⟨v1, cs, d, rfl, s1, ls1, hb1⟩
  have zw1 := hb1.size
  replace hv := SlR.bel hv hb1
  replace B := B.trans (hb1.mono B.size)
  clear hb1
  obtain ⟨A1, c1, rfl, _, _⟩ := s1.form
  go_wp2_with fail
  refine (implRemindersOn_any _ cs d w1 _ s1).mono ?_
  rintro e w2 ⟨v2, rfl, o2, hb2⟩
  have zw2 := hb2.size
  replace hv := SlR.bel hv hb2
  replace s1 := SlR.bel s1 hb2
  replace B := B.trans (hb2.mono B.size)
  clear hb2
  have s2 := own_slI o2
  clear o2
  obtain ⟨A2, c2, rfl, _, _⟩ := s2.form
  go_wp2_with fail
  refine (specRemindersOn_any _ cs d w2 _ s1).mono ?_
  rintro e w3 ⟨v3, rfl, o3, hb3⟩
  have zw3 := hb3.size
  replace hv := SlR.bel hv hb3
  replace s1 := SlR.bel s1 hb3
  replace s2 := SlR.bel s2 hb3
  replace B := B.trans (hb3.mono B.size)
  clear hb3
  have s3 := own_slI o3
  clear o3
  obtain ⟨A3, c3, rfl, _, _⟩ := s3.form
  go_wp2_with fail
  refine (implCountAnswers_any _ cs d w3 _ s1).mono ?_
  rintro e w4 ⟨v4, rfl, o4, hb4⟩
  have zw4 := hb4.size
  replace hv := SlR.bel hv hb4
  replace s1 := SlR.bel s1 hb4
  replace s2 := SlR.bel s2 hb4
  replace s3 := SlR.bel s3 hb4
  replace B := B.trans (hb4.mono B.size)
  clear hb4
  have s4 := own_slI o4
  clear o4
  obtain ⟨A4, c4, rfl, _, _⟩ := s4.form
  go_wp2_with fail
  refine (specCountAnswers_any _ cs d w4 _ s1).mono ?_
  rintro e w5 ⟨v5, rfl, o5, hb5⟩
  have zw5 := hb5.size
  replace hv := SlR.bel hv hb5
  replace s1 := SlR.bel s1 hb5
  replace s2 := SlR.bel s2 hb5
  replace s3 := SlR.bel s3 hb5
  replace s4 := SlR.bel s4 hb5
  replace B := B.trans (hb5.mono B.size)
  clear hb5
  have s5 := own_slI o5
  clear o5
  obtain ⟨A5, c5, rfl, _, _⟩ := s5.form
  go_wp2_with fail
  refine (DrawNextReminder_any v bs w5 hv hb).mono ?_
  rintro e w6 ⟨v6, xs, y, rfl, s6, ls6, hb6⟩
  have zw6 := hb6.size
  replace hv := SlR.bel hv hb6
  replace s1 := SlR.bel s1 hb6
  replace s2 := SlR.bel s2 hb6
  replace s3 := SlR.bel s3 hb6
  replace s4 := SlR.bel s4 hb6
  replace s5 := SlR.bel s5 hb6
  replace B := B.trans (hb6.mono B.size)
  clear hb6
  obtain ⟨A6, c6, rfl, _, _⟩ := s6.form
  go_wp2_with fail
  have HN := Lib.hid (fun e => next_law (cs := xs) (d := y) e)
  refine (implNextReminder_any _ xs y w6 _ s6).mono ?_
  rintro e w7 ⟨rfl, hb7⟩
  have zw7 := hb7.size
  replace hv := SlR.bel hv hb7
  replace s1 := SlR.bel s1 hb7
  replace s2 := SlR.bel s2 hb7
  replace s3 := SlR.bel s3 hb7
  replace s4 := SlR.bel s4 hb7
  replace s5 := SlR.bel s5 hb7
  replace s6 := SlR.bel s6 hb7
  replace B := B.trans (hb7.mono B.size)
  clear hb7
  go_wp2_with fail
  refine (specNextReminder_any _ xs y w7 _ s6).mono ?_
  rintro e w8 ⟨rfl, hb8⟩
  have zw8 := hb8.size
  replace hv := SlR.bel hv hb8
  replace s1 := SlR.bel s1 hb8
  replace s2 := SlR.bel s2 hb8
  replace s3 := SlR.bel s3 hb8
  replace s4 := SlR.bel s4 hb8
  replace s5 := SlR.bel s5 hb8
  replace s6 := SlR.bel s6 hb8
  replace B := B.trans (hb8.mono B.size)
  clear hb8
  generalize nextF xs y = NX at *
  go_wp2_with fail
  refine (likeInts_same _ _ (pickF remindP cs d).1 w8 _ _ s2 s3).mono ?_
  rintro e w9 ⟨rfl, hb9⟩
  have zw9 := hb9.size
  replace hv := SlR.bel hv hb9
  replace s1 := SlR.bel s1 hb9
  replace s2 := SlR.bel s2 hb9
  replace s3 := SlR.bel s3 hb9
  replace s4 := SlR.bel s4 hb9
  replace s5 := SlR.bel s5 hb9
  replace s6 := SlR.bel s6 hb9
  replace B := B.trans (hb9.mono B.size)
  clear hb9
  clear s3
  go_wp2_with fail
  refine (likeInts_same _ _ (countF cs d).1 w9 _ _ s4 s5).mono ?_
  rintro e w10 ⟨rfl, hb10⟩
  have zw10 := hb10.size
  replace hv := SlR.bel hv hb10
  replace s1 := SlR.bel s1 hb10
  replace s2 := SlR.bel s2 hb10
  replace s4 := SlR.bel s4 hb10
  replace s5 := SlR.bel s5 hb10
  replace s6 := SlR.bel s6 hb10
  replace B := B.trans (hb10.mono B.size)
  clear hb10
  clear s5 hv
  have ec : (countF cs d).2 = (pickF remindP cs d).2 := by unfold countF pickF; split <;> rfl
  have ec2 : ((countF cs d).2 != (pickF remindP cs d).2) = false := by simp [ec]
  clear ec
  have lP := pickF_len remindP cs d
  by_cases e1 : NX.2 = 0
  · obtain ⟨n1, n2, n3⟩ := HN.out e1
    have k1 : (NX.2 == 0) = true := by simpa using e1
    clear e1 HN
    go_wp2_with fail
    refine (implRemindersOn_any _ xs NX.1 w10 _ s6).mono ?_
    rintro e w11 ⟨v8, rfl, o8, hb11⟩
    have zw11 := hb11.size
    replace s1 := SlR.bel s1 hb11
    replace s2 := SlR.bel s2 hb11
    replace s4 := SlR.bel s4 hb11
    replace s6 := SlR.bel s6 hb11
    replace B := B.trans (hb11.mono B.size)
    clear hb11
    have s8 := own_slI o8
    clear o8
    obtain ⟨A8, c8, rfl, _, _⟩ := s8.form
    have k4 : ((pickF remindP xs NX.1).2 != 0) = false := by simp [n1]
    have k5 : (((pickF remindP xs NX.1).1.length : Int) == 0) = false := by simp; exact fun e => n2 (by rw [e]; rfl)
    have k6 : ¬ NX.1 ≤ y := by omega
    clear n1 n2 n3
    clear s8
    by_cases e2 : sumCode cs d = 0
    · obtain ⟨b, c, e, hb0, hc0, he0, h1, h2, h3, h4⟩ := count_law e2
      have hR : (pickF remindP cs d).2 = 0 := by simp [pickF, e2]
      have k2 : ((pickF remindP cs d).2 != 0) = false := by simp [hR]
      have HS := Lib.hid (fun z hz => pickF_sub (p := remindP) (q := openP) (cs := cs) (d := d) (remind_open d) z hz)
      have H1 := Lib.hid h1
      clear h1 hR e2
      go_wp2_with fail
      refine (implOpenOn_any _ cs d w11 _ s1).mono ?_
      rintro e w12 ⟨v7, rfl, o7, hb12⟩
      have zw12 := hb12.size
      replace s1 := SlR.bel s1 hb12
      replace s2 := SlR.bel s2 hb12
      replace s4 := SlR.bel s4 hb12
      replace s6 := SlR.bel s6 hb12
      replace B := B.trans (hb12.mono B.size)
      clear hb12
      have s7 := own_slI o7
      clear o7
      obtain ⟨A7, c7, rfl, _, _⟩ := s7.form
      have k3 : ((pickF openP cs d).2 == 0) = true := by simpa using h3
      clear h3
      go_wp2_with fail
      go_loopw [23] (fun i wr => ∃ (k : Nat), i = .int .i64 k ∧ k ≤ (pickF remindP cs d).1.length ∧ Below w12.heap.size w12 wr) (fun i wr => (pickF remindP cs d).1.length - (intOf i).toNat)
      case atStart => exact ⟨0, rfl, Nat.zero_le _, Below.refl _ _⟩
      case round =>
        obtain ⟨k, rfl, hk, hbr⟩ := hrel
        have s2 := SlR.bel s2 hbr
        have s4 := SlR.bel s4 hbr
        have s7 := SlR.bel s7 hbr
        have B := B.trans (hbr.mono B.size)
        by_cases hlt : k < (pickF remindP cs d).1.length
        · obtain ⟨x, hx⟩ := some_at hlt
          have hh := HS.out x (List.mem_of_getElem? hx)
          have HH := Lib.hid hh
          clear hh
          obtain ⟨b, off, rfl, _, hbb, c0⟩ := s2.int_at hx
          clear hx
          go_wp2_with fail
          refine (hasInt_as HH.out s7).mono ?_
          rintro e w' ⟨rfl, rfl⟩
          go_wp2_with fail
          go_roundw
          case rel => exact ⟨k + 1, by go_num, hlt, hbr⟩
          case measure => simp [intOf]; omega
        · have hx0 : [((pickF openP cs d).1.length : Int), b, c, e][0]? = some ((pickF openP cs d).1.length : Int) := rfl
          have eL : (countF cs d).1.length = 4 := by rw [H1.out]; rfl
          replace s4 := SlR.cast s4 (ys := [((pickF openP cs d).1.length : Int), b, c, e]) (congrArg Prod.fst H1.out)
          obtain ⟨b', off', rfl, _, hbb', c0⟩ := s4.int_at hx0
          simp only [Nat.add_zero] at c0
          clear hx0
          have EL := Lib.hid eL
          clear eL
          have z4 : (0 : Int) < ((countF cs d).1.length : Int) := by rw [EL.out]; decide
          have z4' : 0 < (countF cs d).1.length := by rw [EL.out]; decide
          go_wp2_with fail
          have hsum : sumL [((pickF openP cs d).1.length : Int), b, c, e] = ((pickF openP cs d).1.length : Int) + b + c + e := by simp [sumL]; omega
          have C := sum_any _ _ _ _ _ s4 (by intro x hx; simp at hx; omega) (by rw [hsum]; omega)
          rw [hsum] at C
          clear hsum
          refine C.mono ?_
          clear C
          rintro e w' ⟨rfl, rfl⟩
          go_wp2_with fail
          go_ret
          exact ⟨rfl, B⟩
    · have hR : (pickF remindP cs d).2 ≠ 0 := by simp [pickF, e2]
      have k2 : ((pickF remindP cs d).2 != 0) = true := by simpa [bne] using hR
      clear e2 hR
      go_wp2_with fail
      go_ret
      exact ⟨rfl, B⟩
  · have k1 : (NX.2 == 0) = false := by simpa using e1
    clear e1 HN
    by_cases e2 : sumCode cs d = 0
    · obtain ⟨b, c, e, hb0, hc0, he0, h1, h2, h3, h4⟩ := count_law e2
      have hR : (pickF remindP cs d).2 = 0 := by simp [pickF, e2]
      have k2 : ((pickF remindP cs d).2 != 0) = false := by simp [hR]
      have HS := Lib.hid (fun z hz => pickF_sub (p := remindP) (q := openP) (cs := cs) (d := d) (remind_open d) z hz)
      have H1 := Lib.hid h1
      clear h1 hR e2
      go_wp2_with fail
      refine (implOpenOn_any _ cs d w10 _ s1).mono ?_
      rintro e w11 ⟨v7, rfl, o7, hb11⟩
      have zw11 := hb11.size
      replace s1 := SlR.bel s1 hb11
      replace s2 := SlR.bel s2 hb11
      replace s4 := SlR.bel s4 hb11
      replace s6 := SlR.bel s6 hb11
      replace B := B.trans (hb11.mono B.size)
      clear hb11
      have s7 := own_slI o7
      clear o7
      obtain ⟨A7, c7, rfl, _, _⟩ := s7.form
      have k3 : ((pickF openP cs d).2 == 0) = true := by simpa using h3
      clear h3
      go_wp2_with fail
      go_loopw [23] (fun i wr => ∃ (k : Nat), i = .int .i64 k ∧ k ≤ (pickF remindP cs d).1.length ∧ Below w11.heap.size w11 wr) (fun i wr => (pickF remindP cs d).1.length - (intOf i).toNat)
      case atStart => exact ⟨0, rfl, Nat.zero_le _, Below.refl _ _⟩
      case round =>
        obtain ⟨k, rfl, hk, hbr⟩ := hrel
        have s2 := SlR.bel s2 hbr
        have s4 := SlR.bel s4 hbr
        have s7 := SlR.bel s7 hbr
        have B := B.trans (hbr.mono B.size)
        by_cases hlt : k < (pickF remindP cs d).1.length
        · obtain ⟨x, hx⟩ := some_at hlt
          have hh := HS.out x (List.mem_of_getElem? hx)
          have HH := Lib.hid hh
          clear hh
          obtain ⟨b, off, rfl, _, hbb, c0⟩ := s2.int_at hx
          clear hx
          go_wp2_with fail
          refine (hasInt_as HH.out s7).mono ?_
          rintro e w' ⟨rfl, rfl⟩
          go_wp2_with fail
          go_roundw
          case rel => exact ⟨k + 1, by go_num, hlt, hbr⟩
          case measure => simp [intOf]; omega
        · have hx0 : [((pickF openP cs d).1.length : Int), b, c, e][0]? = some ((pickF openP cs d).1.length : Int) := rfl
          have eL : (countF cs d).1.length = 4 := by rw [H1.out]; rfl
          replace s4 := SlR.cast s4 (ys := [((pickF openP cs d).1.length : Int), b, c, e]) (congrArg Prod.fst H1.out)
          obtain ⟨b', off', rfl, _, hbb', c0⟩ := s4.int_at hx0
          simp only [Nat.add_zero] at c0
          clear hx0
          have EL := Lib.hid eL
          clear eL
          have z4 : (0 : Int) < ((countF cs d).1.length : Int) := by rw [EL.out]; decide
          have z4' : 0 < (countF cs d).1.length := by rw [EL.out]; decide
          go_wp2_with fail
          have hsum : sumL [((pickF openP cs d).1.length : Int), b, c, e] = ((pickF openP cs d).1.length : Int) + b + c + e := by simp [sumL]; omega
          have C := sum_any _ _ _ _ _ s4 (by intro x hx; simp at hx; omega) (by rw [hsum]; omega)
          rw [hsum] at C
          clear hsum
          refine C.mono ?_
          clear C
          rintro e w' ⟨rfl, rfl⟩
          go_wp2_with fail
          go_ret
          exact ⟨rfl, B⟩
    · have hR : (pickF remindP cs d).2 ≠ 0 := by simp [pickF, e2]
      have k2 : ((pickF remindP cs d).2 != 0) = true := by simpa [bne] using hR
      clear e2 hR
      go_wp2_with fail
      go_ret
      exact ⟨rfl, B⟩

theorem walk (v0 : Value) (w : World) (g0 : ∃ bs, SlR u8s 1 w 0 w.heap.size v0 bs ∧ ∀ b ∈ bs, 0 ≤ b ∧ b ≤ 255) :
    Calls Try.prog 5 #[v0] w fun e w' => e = .returned (.bool true) ∧ Below w.heap.size w w' := by
  obtain ⟨bs, h, hb⟩ := g0
  exact walkL v0 bs w h hb


theorem own : ownKnob Try.prog.godebug = none := by kernel_rfl
theorem laidOut : laidOutB Try.prog = true := by kernel_rfl

set_option maxRecDepth 100000 in
theorem lifted (os : Os) (started : os.Started) (H : Type) (enc : TypeId × Value → H) :
    ReturnsInHanded {} Try.checked os 5 .any (Rows.fnRemindersSpec.pre6 enc Try.prog Try.f5 Rows.fnRemindersRow.domain false) (Rows.fnRemindersSpec.post enc Try.prog Try.f5 false true false false) := by
  refine returnsInHanded_of_change (C := Try.checked) own started (by kernel_rfl) Try.func5
    (ChangeSpec.witness6 (enc := enc) (C := Try.checked) false ⟨#[], #[.slice none 0 0], []⟩ 8 (by kernel_rfl) (by kernel_rfl) (by kernel_rfl) (by kernel_rfl)) ?_
  intro W base args ds gs before hval0 hW hcnd _
  have hval : ∀ (j : Nat) t v, Try.f5.params[j]? = some t → args[j]? = some v → Value.okWide Try.prog W .any base t v := hval0
  have hW' := hW
  obtain ⟨p, q, hA0, hV, rfl, hfz, hnd⟩ := hW
  have hA : DataW.TrodAll enc Try.prog W 0 (fun _ => true) true Try.f5.params.toList args.toList ds p := hA0
  rw [Try.params5] at hA hval
  obtain ⟨v0, vs0, d0, ds0, p0, q0, hargs, rfl, rfl, h0, r0⟩ := trodAll_cons hA
  obtain ⟨rfl, rfl, rfl⟩ := trodAll_nil r0
  obtain rfl : args = #[v0] := by cases args; simp_all
  obtain ⟨rfl, rfl⟩ := trodVars_none hV
  have lt0 : ∀ x ∈ p0, x.block < W.heap.size := by obtain ⟨m, hm⟩ := h0; exact DataW.trod_lt m _ _ _ hm
  have g0 := open_ByteS (hval 0 22 v0 rfl rfl) h0
  clear hA0 hval0
  refine (walk v0 W g0).mono fun e W' ⟨he, bel⟩ => ?_
  subst he
  exact ⟨_, rfl, _, _, _, [], _, [], hW', trodAll_mk1 (shut_bool Try.underlying4 _), (trodAll_cons_mk (Below.trod laidOut (by kernel_rfl) (of_decide_eq_true (by kernel_rfl)) h0 bel lt0) trodAll_mk0), rfl, bel.frame _, fun h => by cases h⟩

theorem over : Rows.fnRemindersRow.holds Try.pinned (OpenSpec.ofChange Rows.fnRemindersSpec) :=
  OpenClaim.holds_of_wide 5 Try.f5 rfl rfl rfl rfl rfl rfl rfl ⟨rfl, rfl, rfl, rfl, rfl⟩ rfl rfl rfl rfl rfl (by kernel_rfl) Try.func5 (by kernel_rfl)
    (of_decide_eq_true (by kernel_rfl)) (by unfold Func.isWrapper; first | (rw [if_pos (by decide +kernel)]; kernel_rfl) | (rw [if_neg (by decide +kernel)]; exact ⟨rfl, rfl⟩))
    (fun os started H enc _ => lifted os started H enc)

theorem proved : Rows.FnRemindersSaid := over
#print axioms proved
end Go.Proofs.Ytiflpihjffhfhaa.lawFnReminders
