/- FnExactAreSummonses: for every input the law returns true, and each argument reads as it did. No condition. -/
import Derived.Test.YtmfmoihapnejeaaSummB
import Derived.Test.YtmfmoihapnejeaaFrame
namespace Go.Proofs.Ytmfmoihapnejeaa.lawFnExactAreSummonses
open Go.ChangeShapes Go.WideShapes Go.ChangeAt Go.RowKit

set_option maxHeartbeats 4000000 in
theorem walkL (v0 : Value) (cs0 : List S5) (w : World) (h0 : SlS5 w 0 w.heap.size v0 cs0) :
    Calls Try.prog 3 #[v0] w fun e w' => e = .returned (.bool true) ∧ Below w.heap.size w w' := by
  obtain ⟨A0, c0, e0, b0, b0'⟩ := SlR.form h0
  have E0 := Lib.hid e0
  clear e0
  have hB0 : Below w.heap.size w w := Below.refl _ _
  go_enter Try.func3, Try.ntmps3
  go_wp2_with fail
  rcases Nat.lt_or_ge 1048576 cs0.length with hs0 | hs0
  · refine (szSummonsS_big v0 cs0 w h0 hs0).mono ?_
    rintro e w1 ⟨rfl, rfl⟩
    go_wp2_with fail
    go_ret
    exact ⟨rfl, hB0⟩
  have hk0 : (0 : Int) ≤ 1048576 - (cs0.length : Int) := by omega
  refine (szSummonsS_small v0 cs0 w h0 hs0).mono ?_
  rintro e w1 ⟨rfl, rfl⟩
  go_wp2_with fail
  refine (toSummonsS_any v0 cs0 _ 0 (SlR.more h0 (Nat.le_refl _) (by omega)) hs0).mono ?_
  rintro e w1 ⟨x1, rfl, o1, hb1⟩
  have bd1 := Lib.hid (World.ownsRow.lt (OwnR.own o1))
  have z1 := hb1.size
  have h0 := SlR.below h0 hb1 (by omega)
  have B1 := Below.trans hB0 (Below.mono hb1 (by omega))
  go_wp2_with fail
  refine (specAreSummonses_any x1 cs0 _ _ (own_slS5 o1) ).mono ?_
  rintro e w2 ⟨rfl, hb2⟩
  have z2 := hb2.size
  have h0 := SlR.below h0 hb2 (by omega)
  have o1 := OwnR.below o1 hb2
  have B2 := Below.trans B1 (Below.mono hb2 (by omega))
  clear B1
  go_wp2_with fail
  refine (toSummonsS_any v0 cs0 _ 0 (SlR.more h0 (Nat.le_refl _) (by omega)) hs0).mono ?_
  rintro e w3 ⟨x3, rfl, o3, hb3⟩
  have bd3 := Lib.hid (World.ownsRow.lt (OwnR.own o3))
  have z3 := hb3.size
  have h0 := SlR.below h0 hb3 (by omega)
  have B3 := Below.trans B2 (Below.mono hb3 (by omega))
  clear B2
  go_wp2_with fail
  refine (implAreSummonses_any x3 cs0 _ _ (own_slS5 o3) ).mono ?_
  rintro e w4 ⟨rfl, hb4⟩
  have z4 := hb4.size
  have h0 := SlR.below h0 hb4 (by omega)
  have o3 := OwnR.below o3 hb4
  have B4 := Below.trans B3 (Below.mono hb4 (by omega))
  clear B3
  go_wp2_with fail
  refine (toSummonsS_any v0 cs0 _ 0 (SlR.more h0 (Nat.le_refl _) (by omega)) hs0).mono ?_
  rintro e w5 ⟨x5, rfl, o5, hb5⟩
  have bd5 := Lib.hid (World.ownsRow.lt (OwnR.own o5))
  have z5 := hb5.size
  have h0 := SlR.below h0 hb5 (by omega)
  have o3 := OwnR.below o3 hb5
  have B5 := Below.trans B4 (Below.mono hb5 (by omega))
  clear B4
  go_wp2_with fail
  refine (eqSummonsS_any x3 x5 cs0 cs0 _ _ _ (own_slS5 o3) (own_slS5 o5)).mono ?_
  rintro e w6 ⟨rfl, hb6⟩
  have z6 := hb6.size
  have h0 := SlR.below h0 hb6 (by omega)
  have o3 := OwnR.below o3 hb6
  have o5 := OwnR.below o5 hb6
  have B6 := Below.trans B5 (Below.mono hb6 (by omega))
  clear B5
  go_wp2_with fail
  go_ret
  exact ⟨rfl, B6⟩

theorem walk (v0 : Value) (w : World) (g0 : ∃ cs, SlS5 w 0 w.heap.size v0 cs) :
    Calls Try.prog 3 #[v0] w fun e w' => e = .returned (.bool true) ∧ Below w.heap.size w w' := by
  obtain ⟨cs0, h0⟩ := g0
  exact walkL v0 cs0 w h0

theorem own : ownKnob Try.prog.godebug = none := by kernel_rfl
theorem laidOut : laidOutB Try.prog = true := by kernel_rfl

set_option maxRecDepth 100000 in
theorem lifted (os : Os) (started : os.Started) (H : Type) (enc : TypeId × Value → H) :
    ReturnsInHanded {} Try.checked os 3 .any (Rows.fnExactAreSummonsesSpec.pre6 enc Try.prog Try.f3 Rows.fnExactAreSummonsesRow.domain false) (Rows.fnExactAreSummonsesSpec.post enc Try.prog Try.f3 false true false false) := by
  refine returnsInHanded_of_change (C := Try.checked) own started (by kernel_rfl) Try.func3
    (ChangeSpec.witness6 (enc := enc) (C := Try.checked) false ⟨#[], #[.slice none 0 0], []⟩ 8 (by kernel_rfl) (by kernel_rfl) (by kernel_rfl) (by kernel_rfl)) ?_
  intro W base args ds gs before hval0 hW hcnd _
  have hval : ∀ (j : Nat) t v, Try.f3.params[j]? = some t → args[j]? = some v → Value.okWide Try.prog W .any base t v := hval0
  have hW' := hW
  obtain ⟨p, q, hA0, hV, rfl, hfz, hnd⟩ := hW
  have hA : DataW.TrodAll enc Try.prog W 0 (fun _ => true) true Try.f3.params.toList args.toList ds p := hA0
  rw [Try.params3] at hA hval
  obtain ⟨v0, vs0, d0, ds0, p0, q0, hargs, rfl, rfl, h0, r0⟩ := trodAll_cons hA
  obtain ⟨rfl, rfl, rfl⟩ := trodAll_nil r0
  obtain rfl : args = #[v0] := by cases args; simp_all
  obtain ⟨rfl, rfl⟩ := trodVars_none hV
  have lt0 : ∀ x ∈ p0, x.block < W.heap.size := by obtain ⟨m, hm⟩ := h0; exact DataW.trod_lt m _ _ _ hm
  have g0 := open_SummonsS (hval 0 22 v0 rfl rfl) h0
  clear hA0 hval0
  refine (walk v0 W g0).mono fun e W' ⟨he, bel⟩ => ?_
  subst he
  exact ⟨_, rfl, _, _, _, [], _, [], hW', trodAll_mk1 (shut_bool Try.underlying4 _), (trodAll_cons_mk (Below.trod laidOut (by kernel_rfl) (of_decide_eq_true (by kernel_rfl)) h0 bel lt0) trodAll_mk0), rfl, bel.frame _, fun h => by cases h⟩

theorem over : Rows.fnExactAreSummonsesRow.holds Try.pinned (OpenSpec.ofChange Rows.fnExactAreSummonsesSpec) :=
  OpenClaim.holds_of_wide 3 Try.f3 rfl rfl rfl rfl rfl rfl rfl ⟨rfl, rfl, rfl, rfl, rfl⟩ rfl rfl rfl rfl rfl (by kernel_rfl) Try.func3 (by kernel_rfl)
    (of_decide_eq_true (by kernel_rfl)) (by unfold Func.isWrapper; first | (rw [if_pos (by decide +kernel)]; kernel_rfl) | (rw [if_neg (by decide +kernel)]; exact ⟨rfl, rfl⟩))
    (fun os started H enc _ => lifted os started H enc)

theorem proved : Rows.FnExactAreSummonsesSaid := over
#print axioms proved
end Go.Proofs.Ytmfmoihapnejeaa.lawFnExactAreSummonses

