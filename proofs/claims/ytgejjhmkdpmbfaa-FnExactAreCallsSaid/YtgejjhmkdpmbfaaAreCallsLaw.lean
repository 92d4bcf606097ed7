/- FnExactAreCalls: for every list of calls the law returns true, and the argument reads as it did. No condition. -/
import Derived.Test.YtgejjhmkdpmbfaaCallB
import Derived.Test.YtgejjhmkdpmbfaaCallF
namespace Go.Proofs.Ytgejjhmkdpmbfaa.lawFnExactAreCalls
open Go.ChangeShapes Go.WideShapes Go.ChangeAt Go.RowKit

theorem walk_big (v : Value) (w : World) (cs : List C4) (h : SlC w 0 w.heap.size v cs) (hbig : 1048576 < cs.length) :
    Calls Try.prog 3 #[v] w fun e w' => e = .returned (.bool true) ∧ Below w.heap.size w w' := by
  go_enter Try.func3, Try.ntmps3
  go_wp2_with fail
  refine (szCallS_big v cs w h hbig).mono ?_
  rintro e w1 ⟨rfl, rfl⟩
  go_wp2_with fail
  go_ret
  exact ⟨rfl, Below.refl _ _⟩

theorem walk_small (v : Value) (w : World) (cs : List C4) (h : SlC w 0 w.heap.size v cs) (hs : cs.length ≤ 1048576) :
    Calls Try.prog 3 #[v] w fun e w' => e = .returned (.bool true) ∧ Below w.heap.size w w' := by
  have hk0 : (0 : Int) ≤ 1048576 - (cs.length : Int) := by omega
  go_enter Try.func3, Try.ntmps3
  go_wp2_with fail
  refine (szCallS_small v cs w h hs).mono ?_
  rintro e w1 ⟨rfl, rfl⟩
  go_wp2_with fail
  refine (toCallS_any v cs _ 0 h hs).mono ?_
  rintro e w1 ⟨v1, rfl, own1, hb1⟩
  have s1 := own_slC own1
  go_wp2_with fail
  refine (specAreCalls_any v1 cs _ _ s1).mono ?_
  rintro e w2 ⟨rfl, hb2⟩
  have hb2' := hb1.trans (hb2.mono hb1.size)
  go_wp2_with fail
  refine (toCallS_any v cs _ 0 ((h.below hb2' (Nat.le_refl _)).more (Nat.le_refl _) hb2'.size) hs).mono ?_
  rintro e w3 ⟨v3, rfl, own3, hb3⟩
  have s3 := own_slC own3
  have hb3' := hb2'.trans (hb3.mono hb2'.size)
  go_wp2_with fail
  refine (implAreCalls_any v3 cs _ _ s3).mono ?_
  rintro e w4 ⟨rfl, hb4⟩
  have s4 := (s3.below hb4 (Nat.le_refl _)).more (Nat.le_refl _) hb4.size
  have hb4' := hb3'.trans (hb4.mono hb3'.size)
  go_wp2_with fail
  refine (toCallS_any v cs _ 0 ((h.below hb4' (Nat.le_refl _)).more (Nat.le_refl _) hb4'.size) hs).mono ?_
  rintro e w5 ⟨v5, rfl, own5, hb5⟩
  have s5 := own_slC own5
  have hb5' := hb4'.trans (hb5.mono hb4'.size)
  go_wp2_with fail
  refine (eqCallS_any v3 v5 cs cs _ _ _ ((s4.below hb5 (Nat.le_refl _)).more (Nat.le_refl _) hb5.size) s5).mono ?_
  rintro e w6 ⟨rfl, hb6⟩
  have hb6' := hb5'.trans (hb6.mono hb5'.size)
  go_wp2_with fail
  go_ret
  exact ⟨rfl, hb6'⟩

theorem walk (v : Value) (w : World) (h : ∃ cs, SlC w 0 w.heap.size v cs) :
    Calls Try.prog 3 #[v] w fun e w' => e = .returned (.bool true) ∧ Below w.heap.size w w' := by
  obtain ⟨cs, h⟩ := h
  by_cases hs : cs.length ≤ 1048576
  · exact walk_small v w cs h hs
  · exact walk_big v w cs h (by omega)

theorem own : ownKnob Try.prog.godebug = none := by kernel_rfl
theorem laidOut : laidOutB Try.prog = true := by kernel_rfl

set_option maxRecDepth 100000 in
theorem lifted (os : Os) (started : os.Started) (H : Type) (enc : TypeId × Value → H) :
    ReturnsInHanded {} Try.checked os 3 .any (Rows.fnExactAreCallsSpec.pre6 enc Try.prog Try.f3 Rows.fnExactAreCallsRow.domain false) (Rows.fnExactAreCallsSpec.post enc Try.prog Try.f3 false true false false) := by
  refine returnsInHanded_of_change (C := Try.checked) own started (by kernel_rfl) Try.func3
    (ChangeSpec.witness6 (enc := enc) (C := Try.checked) false ⟨#[], #[.slice none 0 0], []⟩ 8 (by kernel_rfl) (by kernel_rfl) (by kernel_rfl) (by kernel_rfl)) ?_
  intro W base args ds gs before hval0 hW hcnd _
  have hval : ∀ (j : Nat) t v, Try.f3.params[j]? = some t → args[j]? = some v → Value.okWide Try.prog W .any base t v := hval0
  have hW' := hW
  obtain ⟨p, q, hA0, hV, rfl, hfz, hnd⟩ := hW
  have hA : DataW.TrodAll enc Try.prog W 0 (fun _ => true) true Try.f3.params.toList args.toList ds p := hA0
  rw [Try.params3] at hA hval
  obtain ⟨v0, vs0, d0, ds0, p0, q0, hargs, rfl, rfl, h0, r0⟩ := trodAll_cons hA
  obtain ⟨rfl, rfl, rfl⟩ := trodAll_nil r0
  obtain rfl : args = #[v0] := by cases args; simp_all
  obtain ⟨rfl, rfl⟩ := trodVars_none hV
  have lt0 : ∀ x ∈ p0, x.block < W.heap.size := by obtain ⟨m, hm⟩ := h0; exact DataW.trod_lt m _ _ _ hm
  have g0 := open_callS (hval 0 22 v0 rfl rfl) h0
  clear hA0 hval0
  refine (walk v0 W g0).mono fun e W' ⟨he, bel⟩ => ?_
  subst he
  exact ⟨_, rfl, _, _, _, [], _, [], hW', trodAll_mk1 (shut_bool Try.underlying4 _), (trodAll_cons_mk (Below.trod laidOut (by kernel_rfl) (of_decide_eq_true (by kernel_rfl)) h0 bel lt0) trodAll_mk0), rfl, bel.frame _, fun h => by cases h⟩

theorem over : Rows.fnExactAreCallsRow.holds Try.pinned (OpenSpec.ofChange Rows.fnExactAreCallsSpec) :=
  OpenClaim.holds_of_wide 3 Try.f3 rfl rfl rfl rfl rfl rfl rfl ⟨rfl, rfl, rfl, rfl, rfl⟩ rfl rfl rfl rfl rfl (by kernel_rfl) Try.func3 (by kernel_rfl)
    (of_decide_eq_true (by kernel_rfl)) (by unfold Func.isWrapper; first | (rw [if_pos (by decide +kernel)]; kernel_rfl) | (rw [if_neg (by decide +kernel)]; exact ⟨rfl, rfl⟩))
    (fun os started H enc _ => lifted os started H enc)

theorem proved : Rows.FnExactAreCallsSaid := over
#print axioms proved
end Go.Proofs.Ytgejjhmkdpmbfaa.lawFnExactAreCalls
