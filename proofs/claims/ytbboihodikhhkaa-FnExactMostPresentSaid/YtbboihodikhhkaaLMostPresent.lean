/- FnExactMostPresent: for every input the law returns true, and each argument reads as it did. No condition. -/
import Derived.Test.YtbboihodikhhkaaShI
import Derived.Test.YtbboihodikhhkaaFrame
namespace Go.Proofs.Ytbboihodikhhkaa.lawFnExactMostPresent
open Go.ChangeShapes Go.WideShapes Go.ChangeAt Go.RowKit

set_option maxRecDepth 100000 in
set_option maxHeartbeats 4000000 in
theorem walkL (v0 : Value) (cs0 : List (Int × List Int)) (w : World) (h0 : RdH w 0 w.heap.size v0 cs0) :
    Calls Try.prog 3 #[v0] w fun e w' => e = .returned (.bool true) ∧ Below w.heap.size w w' := by
  have hB0 : Below w.heap.size w w := Below.refl _ _
  have hq : (0:Int) ≤ 1048576 ∧ (1048576:Int) ≤ 1048576 := by omega
  go_enter Try.func3, Try.ntmps3
  go_wp2_with fail
  refine (szSheetS_u v0 cs0 1048576 _ h0 (by omega) (by omega) (by omega)).mono ?_
  rintro e w1 ⟨r0, rfl, hr0, hs0, hb1⟩
  have z1 := hb1.size
  have h0 := h0.below hb1 (by omega)
  have B1 := Below.trans hB0 (Below.mono hb1 (by omega))
  clear hb1
  rcases (by omega : r0 < 0 ∨ 0 ≤ r0) with hn0 | hn0
  · go_wp2_with fail
    go_ret
    exact ⟨rfl, B1⟩
  have hs0 := hs0 hn0
  go_wp2_with fail
  refine (toSheetS_z v0 cs0 _ 0 (h0.more (Nat.le_refl _) (by omega)) hs0).mono ?_
  rintro e w2 ⟨x2, rfl, o2, hb2⟩
  have z2 := hb2.size
  have h0 := h0.below hb2 (by omega)
  have B2 := Below.trans B1 (Below.mono hb2 (by omega))
  clear hb2
  clear B1
  go_wp2_with fail
  refine (specMostPresent_any x2 cs0 _ _ o2.rd ).mono ?_
  rintro e w3 ⟨rfl, hb3⟩
  have z3 := hb3.size
  have h0 := h0.below hb3 (by omega)
  have o2 := o2.below hb3
  have B3 := Below.trans B2 (Below.mono hb3 (by omega))
  clear hb3
  clear B2
  clear o2
  go_wp2_with fail
  refine (toSheetS_z v0 cs0 _ 0 (h0.more (Nat.le_refl _) (by omega)) hs0).mono ?_
  rintro e w4 ⟨x4, rfl, o4, hb4⟩
  have z4 := hb4.size
  have h0 := h0.below hb4 (by omega)
  have B4 := Below.trans B3 (Below.mono hb4 (by omega))
  clear hb4
  clear B3
  go_wp2_with fail
  refine (implMostPresent_any x4 cs0 _ _ o4.rd ).mono ?_
  rintro e w5 ⟨rfl, hb5⟩
  have z5 := hb5.size
  have h0 := h0.below hb5 (by omega)
  have o4 := o4.below hb5
  have B5 := Below.trans B4 (Below.mono hb5 (by omega))
  clear hb5
  clear B4
  go_wp2_with fail
  refine (toSheetS_z v0 cs0 _ 0 (h0.more (Nat.le_refl _) (by omega)) hs0).mono ?_
  rintro e w6 ⟨x6, rfl, o6, hb6⟩
  have z6 := hb6.size
  have h0 := h0.below hb6 (by omega)
  have o4 := o4.below hb6
  have B6 := Below.trans B5 (Below.mono hb6 (by omega))
  clear hb6
  clear B5
  go_wp2_with fail
  refine (eqSheetS_z x4 x6 cs0 cs0 _ _ _ o4.rd o6.rd).mono ?_
  rintro e w7 ⟨rfl, hb7⟩
  have z7 := hb7.size
  have h0 := h0.below hb7 (by omega)
  have o4 := o4.below hb7
  have o6 := o6.below hb7
  have B7 := Below.trans B6 (Below.mono hb7 (by omega))
  clear hb7
  clear B6
  clear o6
  go_wp2_with fail
  go_ret
  exact ⟨rfl, B7⟩

theorem walk (v0 : Value) (w : World) (g0 : ∃ cs, RdH w 0 w.heap.size v0 cs) :
    Calls Try.prog 3 #[v0] w fun e w' => e = .returned (.bool true) ∧ Below w.heap.size w w' := by
  obtain ⟨cs0, h0⟩ := g0
  exact walkL v0 cs0 w h0

theorem own : ownKnob Try.prog.godebug = none := by kernel_rfl
theorem laidOut : laidOutB Try.prog = true := by kernel_rfl

set_option maxRecDepth 100000 in
theorem lifted (os : Os) (started : os.Started) (H : Type) (enc : TypeId × Value → H) :
    ReturnsInHanded {} Try.checked os 3 .any (Rows.fnExactMostPresentSpec.pre6 enc Try.prog Try.f3 Rows.fnExactMostPresentRow.domain false) (Rows.fnExactMostPresentSpec.post enc Try.prog Try.f3 false true false false) := by
  refine returnsInHanded_of_change (C := Try.checked) own started (by kernel_rfl) Try.func3
    (ChangeSpec.witness6 (enc := enc) (C := Try.checked) false ⟨#[], #[.slice none 0 0], []⟩ 8 (by kernel_rfl) (by kernel_rfl) (by kernel_rfl) (by kernel_rfl)) ?_
  intro W base args ds gs before hval0 hW hcnd _
  have hval : ∀ (j : Nat) t v, Try.f3.params[j]? = some t → args[j]? = some v → Value.okWide Try.prog W .any base t v := hval0
  have hW' := hW
  obtain ⟨p, q, hA0, hV, rfl, hfz, hnd⟩ := hW
  have hA : DataW.TrodAll enc Try.prog W 0 (fun _ => true) true Try.f3.params.toList args.toList ds p := hA0
  rw [Try.params3] at hA hval
  obtain ⟨v0, vs0, d0, ds0, p0, q0, hargs, rfl, rfl, h0, r0⟩ := trodAll_cons hA
  obtain ⟨rfl, rfl, rfl⟩ := trodAll_nil r0
  obtain rfl : args = #[v0] := by cases args; simp_all
  obtain ⟨rfl, rfl⟩ := trodVars_none hV
  have lt0 : ∀ x ∈ p0, x.block < W.heap.size := by obtain ⟨m, hm⟩ := h0; exact DataW.trod_lt m _ _ _ hm
  have g0 := open_SheetS (hval 0 22 v0 rfl rfl) h0
  clear hA0 hval0
  refine (walk v0 W g0).mono fun e W' ⟨he, bel⟩ => ?_
  subst he
  exact ⟨_, rfl, _, _, _, [], _, [], hW', trodAll_mk1 (shut_bool Try.underlying4 _), (trodAll_cons_mk (Below.trod laidOut (by kernel_rfl) (of_decide_eq_true (by kernel_rfl)) h0 bel lt0) trodAll_mk0), rfl, bel.frame _, fun h => by cases h⟩

theorem over : Rows.fnExactMostPresentRow.holds Try.pinned (OpenSpec.ofChange Rows.fnExactMostPresentSpec) :=
  OpenClaim.holds_of_wide 3 Try.f3 rfl rfl rfl rfl rfl rfl rfl ⟨rfl, rfl, rfl, rfl, rfl⟩ rfl rfl rfl rfl rfl (by kernel_rfl) Try.func3 (by kernel_rfl)
    (of_decide_eq_true (by kernel_rfl)) (by unfold Func.isWrapper; first | (rw [if_pos (by decide +kernel)]; kernel_rfl) | (rw [if_neg (by decide +kernel)]; exact ⟨rfl, rfl⟩))
    (fun os started H enc _ => lifted os started H enc)

theorem proved : Rows.FnExactMostPresentSaid := over
#print axioms proved
end Go.Proofs.Ytbboihodikhhkaa.lawFnExactMostPresent

