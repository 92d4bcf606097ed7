/- FnExactMarkPresent: for every input the law returns true, and each argument reads as it did. No condition. -/
import Derived.Test.YtbboihodikhhkaaMkH
import Derived.Test.YtbboihodikhhkaaShM
import Derived.Test.YtbboihodikhhkaaFrame
namespace Go.Proofs.Ytbboihodikhhkaa.lawFnExactMarkPresent
open Go.ChangeShapes Go.WideShapes Go.ChangeAt Go.RowKit

set_option maxRecDepth 100000 in
set_option maxHeartbeats 4000000 in
theorem walkL (v0 : Value) (cs0 : List (Int × List Int)) (n1 : Int) (n2 : Int) (w : World) (h0 : RdH w 0 w.heap.size v0 cs0) :
    Calls Try.prog 4 #[v0, .int .i64 n1, .int .i64 n2] w fun e w' => e = .returned (.bool true) ∧ Below w.heap.size w w' := by
  have hL := markF_small cs0 n1 n2
  have hB0 : Below w.heap.size w w := Below.refl _ _
  have hq : (0:Int) ≤ 1048576 ∧ (1048576:Int) ≤ 1048576 := by omega
  go_enter Try.func4, Try.ntmps4
  go_wp2_with fail
  refine (szSheetS_u v0 cs0 1048576 _ h0 (by omega) (by omega) (by omega)).mono ?_
  rintro e w1 ⟨r0, rfl, hr0, hs0, hb1⟩
  have z1 := hb1.size
  have h0 := h0.below hb1 (by omega)
  have B1 := Below.trans hB0 (Below.mono hb1 (by omega))
  clear hb1
  rcases (by omega : r0 < 0 ∨ 0 ≤ r0) with hn0 | hn0
  · go_wp2_with fail
    go_ret
    exact ⟨rfl, B1⟩
  have hs0 := hs0 hn0
  go_wp2_with fail
  refine (toSheetS_z v0 cs0 _ 0 (h0.more (Nat.le_refl _) (by omega)) hs0).mono ?_
  rintro e w2 ⟨x2, rfl, o2, hb2⟩
  have z2 := hb2.size
  have h0 := h0.below hb2 (by omega)
  have B2 := Below.trans B1 (Below.mono hb2 (by omega))
  clear hb2
  clear B1
  go_wp2_with fail
  refine (specMarkPresent_any x2 cs0 n1 n2 _ _ o2.rd ).mono ?_
  rintro e w3 ⟨x3, rfl, o3, hb3⟩
  have z3 := hb3.size
  have h0 := h0.below hb3 (by omega)
  have o2 := o2.below hb3
  have B3 := Below.trans B2 (Below.mono hb3 (by omega))
  clear hb3
  clear B2
  clear o2
  go_wp2_with fail
  refine (toSheetS_z v0 cs0 _ 0 (h0.more (Nat.le_refl _) (by omega)) hs0).mono ?_
  rintro e w4 ⟨x4, rfl, o4, hb4⟩
  have z4 := hb4.size
  have h0 := h0.below hb4 (by omega)
  have o3 := o3.below hb4
  have B4 := Below.trans B3 (Below.mono hb4 (by omega))
  clear hb4
  clear B3
  go_wp2_with fail
  refine (implMarkPresent_any x4 cs0 n1 n2 _ _ o4.rd ).mono ?_
  rintro e w5 ⟨x5, rfl, o5, hb5⟩
  have z5 := hb5.size
  have h0 := h0.below hb5 (by omega)
  have o3 := o3.below hb5
  have o4 := o4.below hb5
  have B5 := Below.trans B4 (Below.mono hb5 (by omega))
  clear hb5
  clear B4
  go_wp2_with fail
  refine (eqSheetS_z x5 x3 (markF cs0 n1 n2).1 (markF cs0 n1 n2).1 _ _ _ o5.rd o3.rd).mono ?_
  rintro e w6 ⟨rfl, hb6⟩
  have z6 := hb6.size
  have h0 := h0.below hb6 (by omega)
  have o3 := o3.below hb6
  have o4 := o4.below hb6
  have o5 := o5.below hb6
  have B6 := Below.trans B5 (Below.mono hb6 (by omega))
  clear hb6
  clear B5
  go_wp2_with fail
  refine (toSheetS_z v0 cs0 _ 0 (h0.more (Nat.le_refl _) (by omega)) hs0).mono ?_
  rintro e w7 ⟨x7, rfl, o7, hb7⟩
  have z7 := hb7.size
  have h0 := h0.below hb7 (by omega)
  have o3 := o3.below hb7
  have o4 := o4.below hb7
  have o5 := o5.below hb7
  have B7 := Below.trans B6 (Below.mono hb7 (by omega))
  clear hb7
  clear B6
  go_wp2_with fail
  refine (eqSheetS_z x4 x7 cs0 cs0 _ _ _ o4.rd o7.rd).mono ?_
  rintro e w8 ⟨rfl, hb8⟩
  have z8 := hb8.size
  have h0 := h0.below hb8 (by omega)
  have o3 := o3.below hb8
  have o4 := o4.below hb8
  have o5 := o5.below hb8
  have o7 := o7.below hb8
  have B8 := Below.trans B7 (Below.mono hb8 (by omega))
  clear hb8
  clear B7
  clear o7
  go_wp2_with fail
  have cl9 := cntH_le hs0
  refine (markSheetS_z x4 cs0 1 _ _ _ o4 (by omega) (by omega) (by omega)).mono ?_
  rintro e w9 ⟨rfl, m9, hc9⟩
  clear o4
  have z9 := hc9.size
  have h0 := h0.chg hc9 (by omega) (by omega)
  have o3 := o3.chg hc9 (by omega)
  have o5 := o5.chg hc9 (by omega)
  have B9 := Chg.below B8 hc9 (by omega) (by omega)
  clear hc9
  clear B8
  clear m9
  go_wp2_with fail
  refine (eqSheetS_z x5 x3 (markF cs0 n1 n2).1 (markF cs0 n1 n2).1 _ _ _ o5.rd o3.rd).mono ?_
  rintro e w10 ⟨rfl, hb10⟩
  have z10 := hb10.size
  have h0 := h0.below hb10 (by omega)
  have o3 := o3.below hb10
  have o5 := o5.below hb10
  have B10 := Below.trans B9 (Below.mono hb10 (by omega))
  clear hb10
  clear B9
  go_wp2_with fail
  have cl11 := cntH_le hL
  refine (markSheetS_z x5 (markF cs0 n1 n2).1 1 _ _ _ o5 (by omega) (by omega) (by omega)).mono ?_
  rintro e w11 ⟨rfl, m11, hc11⟩
  clear o5
  have z11 := hc11.size
  have h0 := h0.chg hc11 (by omega) (by omega)
  have o3 := o3.chg hc11 (by omega)
  have B11 := Chg.below B10 hc11 (by omega) (by omega)
  clear hc11
  clear B10
  go_wp2_with fail
  refine (heldSheetS_z x5 (markF cs0 n1 n2).1 1 _ _ _ m11.rd (by omega) (by omega) (by omega)).mono ?_
  rintro e w1011 ⟨rfl, rfl⟩
  go_wp2_with fail
  refine (toSheetS_z v0 cs0 _ 0 (h0.more (Nat.le_refl _) (by omega)) hs0).mono ?_
  rintro e w12 ⟨x12, rfl, o12, hb12⟩
  have z12 := hb12.size
  have h0 := h0.below hb12 (by omega)
  have o3 := o3.below hb12
  have m11 := m11.below hb12
  have B12 := Below.trans B11 (Below.mono hb12 (by omega))
  clear hb12
  clear B11
  go_wp2_with fail
  refine (implMarkPresent_any x12 cs0 n1 n2 _ _ o12.rd ).mono ?_
  rintro e w13 ⟨x13, rfl, o13, hb13⟩
  have z13 := hb13.size
  have h0 := h0.below hb13 (by omega)
  have o3 := o3.below hb13
  have m11 := m11.below hb13
  have o12 := o12.below hb13
  have B13 := Below.trans B12 (Below.mono hb13 (by omega))
  clear hb13
  clear B12
  go_wp2_with fail
  refine (eqSheetS_z x13 x3 (markF cs0 n1 n2).1 (markF cs0 n1 n2).1 _ _ _ o13.rd o3.rd).mono ?_
  rintro e w14 ⟨rfl, hb14⟩
  have z14 := hb14.size
  have h0 := h0.below hb14 (by omega)
  have o3 := o3.below hb14
  have m11 := m11.below hb14
  have o12 := o12.below hb14
  have o13 := o13.below hb14
  have B14 := Below.trans B13 (Below.mono hb14 (by omega))
  clear hb14
  clear B13
  go_wp2_with fail
  refine (heldSheetS_z x5 (markF cs0 n1 n2).1 1 _ _ _ m11.rd (by omega) (by omega) (by omega)).mono ?_
  rintro e w1014 ⟨rfl, rfl⟩
  go_wp2_with fail
  go_ret
  exact ⟨rfl, B14⟩

theorem walk (v0 : Value) (v1 : Value) (v2 : Value) (w : World) (g0 : ∃ cs, RdH w 0 w.heap.size v0 cs) (g1 : ∃ n : Int, v1 = .int .i64 n) (g2 : ∃ n : Int, v2 = .int .i64 n) :
    Calls Try.prog 4 #[v0, v1, v2] w fun e w' => e = .returned (.bool true) ∧ Below w.heap.size w w' := by
  obtain ⟨cs0, h0⟩ := g0
  obtain ⟨n1, rfl⟩ := g1
  obtain ⟨n2, rfl⟩ := g2
  exact walkL v0 cs0 n1 n2 w h0

theorem own : ownKnob Try.prog.godebug = none := by kernel_rfl
theorem laidOut : laidOutB Try.prog = true := by kernel_rfl

set_option maxRecDepth 100000 in
theorem lifted (os : Os) (started : os.Started) (H : Type) (enc : TypeId × Value → H) :
    ReturnsInHanded {} Try.checked os 4 .any (Rows.fnExactMarkPresentSpec.pre6 enc Try.prog Try.f4 Rows.fnExactMarkPresentRow.domain false) (Rows.fnExactMarkPresentSpec.post enc Try.prog Try.f4 false true false false) := by
  refine returnsInHanded_of_change (C := Try.checked) own started (by kernel_rfl) Try.func4
    (ChangeSpec.witness6 (enc := enc) (C := Try.checked) false ⟨#[], #[.slice none 0 0, .int .i64 0, .int .i64 0], []⟩ 8 (by kernel_rfl) (by kernel_rfl) (by kernel_rfl) (by kernel_rfl)) ?_
  intro W base args ds gs before hval0 hW hcnd _
  have hval : ∀ (j : Nat) t v, Try.f4.params[j]? = some t → args[j]? = some v → Value.okWide Try.prog W .any base t v := hval0
  have hW' := hW
  obtain ⟨p, q, hA0, hV, rfl, hfz, hnd⟩ := hW
  have hA : DataW.TrodAll enc Try.prog W 0 (fun _ => true) true Try.f4.params.toList args.toList ds p := hA0
  rw [Try.params4] at hA hval
  obtain ⟨v0, vs0, d0, ds0, p0, q0, hargs, rfl, rfl, h0, r0⟩ := trodAll_cons hA
  obtain ⟨v1, vs1, d1, ds1, p1, q1, rfl, rfl, rfl, h1, r1⟩ := trodAll_cons r0
  obtain ⟨v2, vs2, d2, ds2, p2, q2, rfl, rfl, rfl, h2, r2⟩ := trodAll_cons r1
  obtain ⟨rfl, rfl, rfl⟩ := trodAll_nil r2
  obtain rfl : args = #[v0, v1, v2] := by cases args; simp_all
  obtain ⟨rfl, rfl⟩ := trodVars_none hV
  have lt0 : ∀ x ∈ p0, x.block < W.heap.size := by obtain ⟨m, hm⟩ := h0; exact DataW.trod_lt m _ _ _ hm
  have lt1 : ∀ x ∈ p1, x.block < W.heap.size := by obtain ⟨m, hm⟩ := h1; exact DataW.trod_lt m _ _ _ hm
  have lt2 : ∀ x ∈ p2, x.block < W.heap.size := by obtain ⟨m, hm⟩ := h2; exact DataW.trod_lt m _ _ _ hm
  have g0 := open_SheetS (hval 0 22 v0 rfl rfl) h0
  have g1 := open_int64 (hval 1 2 v1 rfl rfl) h1
  have g2 := open_int64 (hval 2 2 v2 rfl rfl) h2
  clear hA0 hval0
  refine (walk v0 v1 v2 W g0 g1 g2).mono fun e W' ⟨he, bel⟩ => ?_
  subst he
  exact ⟨_, rfl, _, _, _, [], _, [], hW', trodAll_mk1 (shut_bool Try.underlying4 _), (trodAll_cons_mk (Below.trod laidOut (by kernel_rfl) (of_decide_eq_true (by kernel_rfl)) h0 bel lt0) (trodAll_cons_mk (Below.trod laidOut (by kernel_rfl) (of_decide_eq_true (by kernel_rfl)) h1 bel lt1) (trodAll_cons_mk (Below.trod laidOut (by kernel_rfl) (of_decide_eq_true (by kernel_rfl)) h2 bel lt2) trodAll_mk0))), rfl, bel.frame _, fun h => by cases h⟩

theorem over : Rows.fnExactMarkPresentRow.holds Try.pinned (OpenSpec.ofChange Rows.fnExactMarkPresentSpec) :=
  OpenClaim.holds_of_wide 4 Try.f4 rfl rfl rfl rfl rfl rfl rfl ⟨rfl, rfl, rfl, rfl, rfl⟩ rfl rfl rfl rfl rfl (by kernel_rfl) Try.func4 (by kernel_rfl)
    (of_decide_eq_true (by kernel_rfl)) (by unfold Func.isWrapper; first | (rw [if_pos (by decide +kernel)]; kernel_rfl) | (rw [if_neg (by decide +kernel)]; exact ⟨rfl, rfl⟩))
    (fun os started H enc _ => lifted os started H enc)

theorem proved : Rows.FnExactMarkPresentSaid := over
#print axioms proved
end Go.Proofs.Ytbboihodikhhkaa.lawFnExactMarkPresent

