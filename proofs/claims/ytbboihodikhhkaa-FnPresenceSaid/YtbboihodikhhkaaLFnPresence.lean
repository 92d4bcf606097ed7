/- FnPresence: for every code the law returns true. No condition. -/
import Derived.Test.YtbboihodikhhkaaShP
import Derived.Test.YtbboihodikhhkaaShI
import Derived.Test.YtbboihodikhhkaaShDl
namespace Go.Proofs.Ytbboihodikhhkaa.lawFnPresence
open Go.ChangeShapes Go.WideShapes Go.ChangeAt Go.RowKit

set_option maxRecDepth 100000 in
set_option maxHeartbeats 16000000 in
theorem walkL (v : Value) (bs : List Int) (w : World) (hv : SlR u8s 1 w 0 w.heap.size v bs) (hb : ∀ b ∈ bs, 0 ≤ b ∧ b ≤ 255) :
    Calls Try.prog 5 #[v] w fun e w' => e = .returned (.bool true) ∧ Below w.heap.size w w' := by
  have B := Below.refl w.heap.size w
  go_enter Try.func5, Try.ntmps5
  go_wp2_with fail
  refine (big_any v bs w 0 _ hv).mono ?_
  rintro e w0 ⟨rfl, rfl⟩
  by_cases hbig : 4096 < bs.length
  · have hd : decide (4096 < bs.length) = true := decide_eq_true hbig
    go_wp2_with fail
    go_ret
    exact ⟨rfl, B⟩
  have hd : decide (4096 < bs.length) = false := decide_eq_false hbig
  clear hbig
  go_wp2_with fail
  clear hd
  refine (DrawLongestRun_any v bs w hv hb).mono ?_
  rintro e w1 ⟨y, z, n, rfl, t1, lt1, hb1⟩
  have zw1 := hb1.size
  replace hv := SlR.bel hv hb1
  replace B := B.trans (hb1.mono B.size)
  clear hb1
  obtain ⟨ll, c, ds, e1, e2, hdl, hc⟩ := pres_law z n
  have HC := Lib.hid hc
  clear hc
  obtain ⟨A0, c0, rfl, _, _⟩ := t1.len_form
  go_wp2_with fail
  have C2 := implLongestRun_any _ z n w1 _ t1
  rw [e1] at C2
  refine C2.mono ?_
  clear C2
  rintro e w2 ⟨rfl, hb2⟩
  have zw2 := hb2.size
  replace hv := SlR.bel hv hb2
  replace t1 := RdH.bel t1 hb2
  replace B := B.trans (hb2.mono B.size)
  clear hb2
  go_wp2_with fail
  have C3 := specLongestRun_any _ z n w2 _ t1
  rw [e1] at C3
  refine C3.mono ?_
  clear C3
  rintro e w3 ⟨rfl, hb3⟩
  have zw3 := hb3.size
  replace hv := SlR.bel hv hb3
  replace t1 := RdH.bel t1 hb3
  replace B := B.trans (hb3.mono B.size)
  clear hb3
  go_wp2_with fail
  have C4 := implDaysPresent_any _ z n w3 _ t1
  rw [e2] at C4
  refine C4.mono ?_
  clear C4
  rintro e w4 ⟨v1, rfl, o1, hb4⟩
  have zw4 := hb4.size
  replace hv := SlR.bel hv hb4
  replace t1 := RdH.bel t1 hb4
  replace B := B.trans (hb4.mono B.size)
  clear hb4
  have s1 := own_slI o1
  clear o1
  obtain ⟨A1, c1, rfl, _, _⟩ := s1.form
  go_wp2_with fail
  have C5 := specDaysPresent_any _ z n w4 _ t1
  rw [e2] at C5
  refine C5.mono ?_
  clear C5
  rintro e w5 ⟨v2, rfl, o2, hb5⟩
  have zw5 := hb5.size
  replace hv := SlR.bel hv hb5
  replace s1 := SlR.bel s1 hb5
  replace t1 := RdH.bel t1 hb5
  replace B := B.trans (hb5.mono B.size)
  clear hb5
  have s2 := own_slI o2
  clear o2
  obtain ⟨A2, c2, rfl, _, _⟩ := s2.form
  clear t1
  clear e1 e2
  go_wp2_with fail
  refine (DrawMostPresent_any v bs w5 hv hb).mono ?_
  rintro e w6 ⟨yx, x, rfl, t3, lt3, hb6⟩
  have zw6 := hb6.size
  replace hv := SlR.bel hv hb6
  replace s1 := SlR.bel s1 hb6
  replace s2 := SlR.bel s2 hb6
  replace B := B.trans (hb6.mono B.size)
  clear hb6
  clear hv
  obtain ⟨m, k, mc, e3, hm⟩ := most_law x
  have HM := Lib.hid hm
  clear hm
  obtain ⟨A3, c3, rfl, _, _⟩ := t3.len_form
  go_wp2_with fail
  have C7 := implMostPresent_any _ x w6 _ t3
  rw [e3] at C7
  refine C7.mono ?_
  clear C7
  rintro e w7 ⟨rfl, hb7⟩
  have zw7 := hb7.size
  replace s1 := SlR.bel s1 hb7
  replace s2 := SlR.bel s2 hb7
  replace t3 := RdH.bel t3 hb7
  replace B := B.trans (hb7.mono B.size)
  clear hb7
  go_wp2_with fail
  have C8 := specMostPresent_any _ x w7 _ t3
  rw [e3] at C8
  refine C8.mono ?_
  clear C8
  rintro e w8 ⟨rfl, hb8⟩
  have zw8 := hb8.size
  replace s1 := SlR.bel s1 hb8
  replace s2 := SlR.bel s2 hb8
  replace t3 := RdH.bel t3 hb8
  replace B := B.trans (hb8.mono B.size)
  clear hb8
  clear e3
  go_wp2_with fail
  refine (likeInts_same _ _ ds w8 _ _ s1 s2).mono ?_
  rintro e w9 ⟨rfl, hb9⟩
  have zw9 := hb9.size
  replace s1 := SlR.bel s1 hb9
  replace s2 := SlR.bel s2 hb9
  replace t3 := RdH.bel t3 hb9
  replace B := B.trans (hb9.mono B.size)
  clear hb9
  clear s2
  rcases HM.out with m1 | ⟨m1, hall⟩
  · have m2 : (mc == 0) = false := by simpa using m1
    clear HM m1
    rcases HC.out with c1 | ⟨c1, c2, ⟨c3, c4⟩ | ⟨c3, c4⟩⟩
    · have c2 : (c == 0) = false := by simpa using c1
      have c3 : (c != 0) = true := by simpa using c1
      clear c1
      go_wp2_with fail
      go_ret
      exact ⟨rfl, B⟩
    · subst c1
      have d1 : decide (0 < ll) = true := by simpa using c3
      have d2 : decide (0 < ds.length) = true := decide_eq_true (by omega)
      have c5 : 0 < ds.length := by omega
      go_wp2_with fail
      go_ret
      refine ⟨?_, B⟩
      first
        | rfl
        | (show Ending.returned (Value.bool (decide (0 < ll) == decide (0 < ds.length))) = _; rw [d1, d2]; rfl)
    · subst c1
      have d1 : decide (0 < ll) = false := by simpa using c3
      have d2 : decide (0 < ds.length) = false := decide_eq_false (by omega)
      have c5 : ¬ 0 < ds.length := by omega
      go_wp2_with fail
      go_ret
      refine ⟨?_, B⟩
      first
        | rfl
        | (show Ending.returned (Value.bool (decide (0 < ll) == decide (0 < ds.length))) = _; rw [d1, d2]; rfl)
  · subst m1
    obtain ⟨p, p1, p2, _, p3⟩ := hall m
    replace p3 := p3 rfl
    obtain ⟨q, q1, q2, q3, _⟩ := hall n
    clear hall HM
    go_wp2_with fail
    have C10 := implDaysPresent_any _ x m w9 _ t3
    rw [p1] at C10
    refine C10.mono ?_
    clear C10
    rintro e w10 ⟨v4, rfl, o4, hb10⟩
    have zw10 := hb10.size
    replace s1 := SlR.bel s1 hb10
    replace t3 := RdH.bel t3 hb10
    replace B := B.trans (hb10.mono B.size)
    clear hb10
    have s4 := own_slI o4
    clear o4
    obtain ⟨A4, c4, rfl, _, _⟩ := s4.form
    go_wp2_with fail
    have C11 := implDaysPresent_any _ x n w10 _ t3
    rw [q1] at C11
    refine C11.mono ?_
    clear C11
    rintro e w11 ⟨v5, rfl, o5, hb11⟩
    have zw11 := hb11.size
    replace s1 := SlR.bel s1 hb11
    replace s4 := SlR.bel s4 hb11
    replace t3 := RdH.bel t3 hb11
    replace B := B.trans (hb11.mono B.size)
    clear hb11
    have s5 := own_slI o5
    clear o5
    obtain ⟨A5, c5, rfl, _, _⟩ := s5.form
    clear p1 q1
    subst p3
    have q4 : decide ((p.length : Int) < (q.length : Int)) = false := decide_eq_false (by omega)
    have q5 : ¬ p.length < q.length := by omega
    rcases HC.out with c1 | ⟨c1, c2, ⟨c3, c4⟩ | ⟨c3, c4⟩⟩
    · have c2 : (c == 0) = false := by simpa using c1
      have c3 : (c != 0) = true := by simpa using c1
      clear c1
      go_wp2_with fail
      go_ret
      exact ⟨rfl, B⟩
    · subst c1
      have d1 : decide (0 < ll) = true := by simpa using c3
      have d2 : decide (0 < ds.length) = true := decide_eq_true (by omega)
      have c5 : 0 < ds.length := by omega
      go_wp2_with fail
      go_ret
      refine ⟨?_, B⟩
      first
        | rfl
        | (show Ending.returned (Value.bool (decide (0 < ll) == decide (0 < ds.length))) = _; rw [d1, d2]; rfl)
    · subst c1
      have d1 : decide (0 < ll) = false := by simpa using c3
      have d2 : decide (0 < ds.length) = false := decide_eq_false (by omega)
      have c5 : ¬ 0 < ds.length := by omega
      go_wp2_with fail
      go_ret
      refine ⟨?_, B⟩
      first
        | rfl
        | (show Ending.returned (Value.bool (decide (0 < ll) == decide (0 < ds.length))) = _; rw [d1, d2]; rfl)

theorem walk (v0 : Value) (w : World) (g0 : ∃ bs, SlR u8s 1 w 0 w.heap.size v0 bs ∧ ∀ b ∈ bs, 0 ≤ b ∧ b ≤ 255) :
    Calls Try.prog 5 #[v0] w fun e w' => e = .returned (.bool true) ∧ Below w.heap.size w w' := by
  obtain ⟨bs, h, hb⟩ := g0
  exact walkL v0 bs w h hb


theorem own : ownKnob Try.prog.godebug = none := by kernel_rfl
theorem laidOut : laidOutB Try.prog = true := by kernel_rfl

set_option maxRecDepth 100000 in
theorem lifted (os : Os) (started : os.Started) (H : Type) (enc : TypeId × Value → H) :
    ReturnsInHanded {} Try.checked os 5 .any (Rows.fnPresenceSpec.pre6 enc Try.prog Try.f5 Rows.fnPresenceRow.domain false) (Rows.fnPresenceSpec.post enc Try.prog Try.f5 false true false false) := by
  refine returnsInHanded_of_change (C := Try.checked) own started (by kernel_rfl) Try.func5
    (ChangeSpec.witness6 (enc := enc) (C := Try.checked) false ⟨#[], #[.slice none 0 0], []⟩ 8 (by kernel_rfl) (by kernel_rfl) (by kernel_rfl) (by kernel_rfl)) ?_
  intro W base args ds gs before hval0 hW hcnd _
  have hval : ∀ (j : Nat) t v, Try.f5.params[j]? = some t → args[j]? = some v → Value.okWide Try.prog W .any base t v := hval0
  have hW' := hW
  obtain ⟨p, q, hA0, hV, rfl, hfz, hnd⟩ := hW
  have hA : DataW.TrodAll enc Try.prog W 0 (fun _ => true) true Try.f5.params.toList args.toList ds p := hA0
  rw [Try.params5] at hA hval
  obtain ⟨v0, vs0, d0, ds0, p0, q0, hargs, rfl, rfl, h0, r0⟩ := trodAll_cons hA
  obtain ⟨rfl, rfl, rfl⟩ := trodAll_nil r0
  obtain rfl : args = #[v0] := by cases args; simp_all
  obtain ⟨rfl, rfl⟩ := trodVars_none hV
  have lt0 : ∀ x ∈ p0, x.block < W.heap.size := by obtain ⟨m, hm⟩ := h0; exact DataW.trod_lt m _ _ _ hm
  have g0 := open_ByteS (hval 0 34 v0 rfl rfl) h0
  clear hA0 hval0
  refine (walk v0 W g0).mono fun e W' ⟨he, bel⟩ => ?_
  subst he
  exact ⟨_, rfl, _, _, _, [], _, [], hW', trodAll_mk1 (shut_bool Try.underlying4 _), (trodAll_cons_mk (Below.trod laidOut (by kernel_rfl) (of_decide_eq_true (by kernel_rfl)) h0 bel lt0) trodAll_mk0), rfl, bel.frame _, fun h => by cases h⟩

theorem over : Rows.fnPresenceRow.holds Try.pinned (OpenSpec.ofChange Rows.fnPresenceSpec) :=
  OpenClaim.holds_of_wide 5 Try.f5 rfl rfl rfl rfl rfl rfl rfl ⟨rfl, rfl, rfl, rfl, rfl⟩ rfl rfl rfl rfl rfl (by kernel_rfl) Try.func5 (by kernel_rfl)
    (of_decide_eq_true (by kernel_rfl)) (by unfold Func.isWrapper; first | (rw [if_pos (by decide +kernel)]; kernel_rfl) | (rw [if_neg (by decide +kernel)]; exact ⟨rfl, rfl⟩))
    (fun os started H enc _ => lifted os started H enc)

theorem proved : Rows.FnPresenceSaid := over
#print axioms proved
end Go.Proofs.Ytbboihodikhhkaa.lawFnPresence
