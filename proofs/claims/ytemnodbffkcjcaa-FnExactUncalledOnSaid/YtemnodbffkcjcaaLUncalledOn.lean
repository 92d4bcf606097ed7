/- FnExactUncalledOn: for every input the law returns true, and each argument reads as it did. No condition. -/
import Derived.Test.YtemnodbffkcjcaaShG
import Derived.Test.YtemnodbffkcjcaaShM
import Derived.Test.YtemnodbffkcjcaaFrame
namespace Go.Proofs.Ytemnodbffkcjcaa.lawFnExactUncalledOn
open Go.ChangeShapes Go.WideShapes Go.ChangeAt Go.RowKit

set_option maxRecDepth 100000 in
set_option maxHeartbeats 4000000 in
theorem walkL (v0 : Value) (cs0 : List (Int × List Int)) (v1 : Value) (cs1 : List C4) (n2 : Int) (w : World) (h0 : RdH w 0 w.heap.size v0 cs0) (h1 : SlC4 w 0 w.heap.size v1 cs1) :
    Calls Try.prog 9 #[v0, v1, .int .i64 n2] w fun e w' => e = .returned (.bool true) ∧ Below w.heap.size w w' := by
  have hL : (uncF cs0 cs1 n2).1.length ≤ 60 := uncF_len cs0 cs1 n2
  have hB0 : Below w.heap.size w w := Below.refl _ _
  have hq : (0:Int) ≤ 1048576 ∧ (1048576:Int) ≤ 1048576 := by omega
  go_enter Try.func9, Try.ntmps9
  go_wp2_with fail
  refine (szSheetS_u v0 cs0 1048576 _ h0 (by omega) (by omega) (by omega)).mono ?_
  rintro e w1 ⟨r0, rfl, hr0, hs0, hb1⟩
  have z1 := hb1.size
  have h0 := h0.below hb1 (by omega)
  have h1 := h1.below hb1 (by omega)
  have B1 := Below.trans hB0 (Below.mono hb1 (by omega))
  clear hb1
  rcases (by omega : r0 < 0 ∨ 0 ≤ r0) with hn0 | hn0
  · go_wp2_with fail
    go_ret
    exact ⟨rfl, B1⟩
  have hs0 := hs0 hn0
  go_wp2_with fail
  refine (szCallS_u v1 cs1 r0 _ h1 (by omega) (by omega) (by omega)).mono ?_
  rintro e w2 ⟨r1, rfl, hr1, hs1, hb2⟩
  have z2 := hb2.size
  have h0 := h0.below hb2 (by omega)
  have h1 := h1.below hb2 (by omega)
  have B2 := Below.trans B1 (Below.mono hb2 (by omega))
  clear hb2
  clear B1
  rcases (by omega : r1 < 0 ∨ 0 ≤ r1) with hn1 | hn1
  · go_wp2_with fail
    go_ret
    exact ⟨rfl, B2⟩
  have hs1 := hs1 hn1
  go_wp2_with fail
  refine (toSheetS_z v0 cs0 _ 0 (h0.more (Nat.le_refl _) (by omega)) hs0).mono ?_
  rintro e w3 ⟨x3, rfl, o3, hb3⟩
  have z3 := hb3.size
  have h0 := h0.below hb3 (by omega)
  have h1 := h1.below hb3 (by omega)
  have B3 := Below.trans B2 (Below.mono hb3 (by omega))
  clear hb3
  clear B2
  go_wp2_with fail
  refine (toCallS_any v1 cs1 _ 0 (h1.more (Nat.le_refl _) (by omega)) hs1).mono ?_
  rintro e w4 ⟨x4, rfl, o4, hb4⟩
  have z4 := hb4.size
  have h0 := h0.below hb4 (by omega)
  have h1 := h1.below hb4 (by omega)
  have o3 := o3.below hb4
  have B4 := Below.trans B3 (Below.mono hb4 (by omega))
  clear hb4
  clear B3
  have o4 := OwI.of o4
  go_wp2_with fail
  refine (specUncalledOn_any x3 cs0 x4 cs1 n2 _ _ o3.rd _ (OwI.rd (fun _ => rfl) o4) ).mono ?_
  rintro e w5 ⟨x5, rfl, o5, hb5⟩
  have z5 := hb5.size
  have h0 := h0.below hb5 (by omega)
  have h1 := h1.below hb5 (by omega)
  have o3 := o3.below hb5
  have o4 := o4.below hb5
  have B5 := Below.trans B4 (Below.mono hb5 (by omega))
  clear hb5
  clear B4
  have o5 := OwI.of o5
  clear o3
  clear o4
  go_wp2_with fail
  refine (toSheetS_z v0 cs0 _ 0 (h0.more (Nat.le_refl _) (by omega)) hs0).mono ?_
  rintro e w6 ⟨x6, rfl, o6, hb6⟩
  have z6 := hb6.size
  have h0 := h0.below hb6 (by omega)
  have h1 := h1.below hb6 (by omega)
  have o5 := o5.below hb6
  have B6 := Below.trans B5 (Below.mono hb6 (by omega))
  clear hb6
  clear B5
  go_wp2_with fail
  refine (toCallS_any v1 cs1 _ 0 (h1.more (Nat.le_refl _) (by omega)) hs1).mono ?_
  rintro e w7 ⟨x7, rfl, o7, hb7⟩
  have z7 := hb7.size
  have h0 := h0.below hb7 (by omega)
  have h1 := h1.below hb7 (by omega)
  have o5 := o5.below hb7
  have o6 := o6.below hb7
  have B7 := Below.trans B6 (Below.mono hb7 (by omega))
  clear hb7
  clear B6
  have o7 := OwI.of o7
  go_wp2_with fail
  refine (implUncalledOn_any x6 cs0 x7 cs1 n2 _ _ o6.rd _ (OwI.rd (fun _ => rfl) o7) ).mono ?_
  rintro e w8 ⟨x8, rfl, o8, hb8⟩
  have z8 := hb8.size
  have h0 := h0.below hb8 (by omega)
  have h1 := h1.below hb8 (by omega)
  have o5 := o5.below hb8
  have o6 := o6.below hb8
  have o7 := o7.below hb8
  have B8 := Below.trans B7 (Below.mono hb8 (by omega))
  clear hb8
  clear B7
  have o8 := OwI.of o8
  go_wp2_with fail
  refine (eqInt64S_any x8 x5 (uncF cs0 cs1 n2).1 (uncF cs0 cs1 n2).1 _ _ _ (OwI.rd (fun _ => rfl) o8) (OwI.rd (fun _ => rfl) o5)).mono ?_
  rintro e w9 ⟨rfl, hb9⟩
  have z9 := hb9.size
  have h0 := h0.below hb9 (by omega)
  have h1 := h1.below hb9 (by omega)
  have o5 := o5.below hb9
  have o6 := o6.below hb9
  have o7 := o7.below hb9
  have o8 := o8.below hb9
  have B9 := Below.trans B8 (Below.mono hb9 (by omega))
  clear hb9
  clear B8
  go_wp2_with fail
  refine (toSheetS_z v0 cs0 _ 0 (h0.more (Nat.le_refl _) (by omega)) hs0).mono ?_
  rintro e w10 ⟨x10, rfl, o10, hb10⟩
  have z10 := hb10.size
  have h0 := h0.below hb10 (by omega)
  have h1 := h1.below hb10 (by omega)
  have o5 := o5.below hb10
  have o6 := o6.below hb10
  have o7 := o7.below hb10
  have o8 := o8.below hb10
  have B10 := Below.trans B9 (Below.mono hb10 (by omega))
  clear hb10
  clear B9
  go_wp2_with fail
  refine (eqSheetS_z x6 x10 cs0 cs0 _ _ _ o6.rd o10.rd).mono ?_
  rintro e w11 ⟨rfl, hb11⟩
  have z11 := hb11.size
  have h0 := h0.below hb11 (by omega)
  have h1 := h1.below hb11 (by omega)
  have o5 := o5.below hb11
  have o6 := o6.below hb11
  have o7 := o7.below hb11
  have o8 := o8.below hb11
  have o10 := o10.below hb11
  have B11 := Below.trans B10 (Below.mono hb11 (by omega))
  clear hb11
  clear B10
  clear o10
  go_wp2_with fail
  refine (toCallS_any v1 cs1 _ 0 (h1.more (Nat.le_refl _) (by omega)) hs1).mono ?_
  rintro e w12 ⟨x12, rfl, o12, hb12⟩
  have z12 := hb12.size
  have h0 := h0.below hb12 (by omega)
  have h1 := h1.below hb12 (by omega)
  have o5 := o5.below hb12
  have o6 := o6.below hb12
  have o7 := o7.below hb12
  have o8 := o8.below hb12
  have B12 := Below.trans B11 (Below.mono hb12 (by omega))
  clear hb12
  clear B11
  have o12 := OwI.of o12
  go_wp2_with fail
  refine (eqCallS_any x7 x12 cs1 cs1 _ _ _ (OwI.rd (fun _ => rfl) o7) (OwI.rd (fun _ => rfl) o12)).mono ?_
  rintro e w13 ⟨rfl, hb13⟩
  have z13 := hb13.size
  have h0 := h0.below hb13 (by omega)
  have h1 := h1.below hb13 (by omega)
  have o5 := o5.below hb13
  have o6 := o6.below hb13
  have o7 := o7.below hb13
  have o8 := o8.below hb13
  have o12 := o12.below hb13
  have B13 := Below.trans B12 (Below.mono hb13 (by omega))
  clear hb13
  clear B12
  clear o12
  go_wp2_with fail
  have cl14 := cntH_le hs0
  refine (markSheetS_z x6 cs0 1 _ _ _ o6 (by omega) (by omega) (by omega)).mono ?_
  rintro e w14 ⟨rfl, m14, hc14⟩
  clear o6
  have z14 := hc14.size
  have h0 := h0.chg hc14 (by omega) (by omega)
  have h1 := h1.chg hc14 (by omega) (by omega)
  have o5 := o5.chg hc14 (by omega)
  have o7 := o7.chg hc14 (by omega)
  have o8 := o8.chg hc14 (by omega)
  have B14 := Chg.below B13 hc14 (by omega) (by omega)
  clear hc14
  clear B13
  go_wp2_with fail
  have in15 := Lib.hid o7.in_
  refine (markCallS_any x7 _ _ (1 + (cntH cs0 : Int)) _ _ (OwnR.own o7.own) (by omega) (by omega) (by omega)).mono ?_
  rintro e w15 ⟨rfl, m15, hg15⟩
  have hc15 := Chg.of_grown hg15 in15.out
  clear hg15 o7
  have z15 := hc15.size
  have h0 := h0.chg hc15 (by omega) (by omega)
  have h1 := h1.chg hc15 (by omega) (by omega)
  have o5 := o5.chg hc15 (by omega)
  have o8 := o8.chg hc15 (by omega)
  have m14 := m14.chg hc15 (by omega)
  have B15 := Chg.below B14 hc15 (by omega) (by omega)
  clear hc15
  clear B14
  have m15 : OwI _ _ _ _ _ _ _ _ := ⟨m15, fun g hg => (in15.out g hg).2⟩
  clear m14
  clear m15
  go_wp2_with fail
  refine (eqInt64S_any x8 x5 (uncF cs0 cs1 n2).1 (uncF cs0 cs1 n2).1 _ _ _ (OwI.rd (fun _ => rfl) o8) (OwI.rd (fun _ => rfl) o5)).mono ?_
  rintro e w16 ⟨rfl, hb16⟩
  have z16 := hb16.size
  have h0 := h0.below hb16 (by omega)
  have h1 := h1.below hb16 (by omega)
  have o5 := o5.below hb16
  have o8 := o8.below hb16
  have B16 := Below.trans B15 (Below.mono hb16 (by omega))
  clear hb16
  clear B15
  go_wp2_with fail
  have in17 := Lib.hid o8.in_
  refine (markInt64S_any x8 _ _ 1 _ _ (OwnR.own o8.own) (by omega) (by omega) (by omega)).mono ?_
  rintro e w17 ⟨rfl, m17, hg17⟩
  have hc17 := Chg.of_grown hg17 in17.out
  clear hg17 o8
  have z17 := hc17.size
  have h0 := h0.chg hc17 (by omega) (by omega)
  have h1 := h1.chg hc17 (by omega) (by omega)
  have o5 := o5.chg hc17 (by omega)
  have B17 := Chg.below B16 hc17 (by omega) (by omega)
  clear hc17
  clear B16
  have m17 : OwI _ _ _ _ _ _ _ _ := ⟨m17, fun g hg => (in17.out g hg).2⟩
  go_wp2_with fail
  refine (heldInt64S_any x8 _ 1 _ _ _ (OwI.rd (fun _ => rfl) m17) (by omega) (by omega) (by omega)).mono ?_
  rintro e w1017 ⟨rfl, rfl⟩
  go_wp2_with fail
  refine (toSheetS_z v0 cs0 _ 0 (h0.more (Nat.le_refl _) (by omega)) hs0).mono ?_
  rintro e w18 ⟨x18, rfl, o18, hb18⟩
  have z18 := hb18.size
  have h0 := h0.below hb18 (by omega)
  have h1 := h1.below hb18 (by omega)
  have o5 := o5.below hb18
  have m17 := m17.below hb18
  have B18 := Below.trans B17 (Below.mono hb18 (by omega))
  clear hb18
  clear B17
  go_wp2_with fail
  refine (toCallS_any v1 cs1 _ 0 (h1.more (Nat.le_refl _) (by omega)) hs1).mono ?_
  rintro e w19 ⟨x19, rfl, o19, hb19⟩
  have z19 := hb19.size
  have h0 := h0.below hb19 (by omega)
  have h1 := h1.below hb19 (by omega)
  have o5 := o5.below hb19
  have m17 := m17.below hb19
  have o18 := o18.below hb19
  have B19 := Below.trans B18 (Below.mono hb19 (by omega))
  clear hb19
  clear B18
  have o19 := OwI.of o19
  go_wp2_with fail
  refine (implUncalledOn_any x18 cs0 x19 cs1 n2 _ _ o18.rd _ (OwI.rd (fun _ => rfl) o19) ).mono ?_
  rintro e w20 ⟨x20, rfl, o20, hb20⟩
  have z20 := hb20.size
  have h0 := h0.below hb20 (by omega)
  have h1 := h1.below hb20 (by omega)
  have o5 := o5.below hb20
  have m17 := m17.below hb20
  have o18 := o18.below hb20
  have o19 := o19.below hb20
  have B20 := Below.trans B19 (Below.mono hb20 (by omega))
  clear hb20
  clear B19
  have o20 := OwI.of o20
  go_wp2_with fail
  refine (eqInt64S_any x20 x5 (uncF cs0 cs1 n2).1 (uncF cs0 cs1 n2).1 _ _ _ (OwI.rd (fun _ => rfl) o20) (OwI.rd (fun _ => rfl) o5)).mono ?_
  rintro e w21 ⟨rfl, hb21⟩
  have z21 := hb21.size
  have h0 := h0.below hb21 (by omega)
  have h1 := h1.below hb21 (by omega)
  have o5 := o5.below hb21
  have m17 := m17.below hb21
  have o18 := o18.below hb21
  have o19 := o19.below hb21
  have o20 := o20.below hb21
  have B21 := Below.trans B20 (Below.mono hb21 (by omega))
  clear hb21
  clear B20
  go_wp2_with fail
  refine (heldInt64S_any x8 _ 1 _ _ _ (OwI.rd (fun _ => rfl) m17) (by omega) (by omega) (by omega)).mono ?_
  rintro e w1021 ⟨rfl, rfl⟩
  go_wp2_with fail
  go_ret
  exact ⟨rfl, B21⟩

theorem walk (v0 : Value) (v1 : Value) (v2 : Value) (w : World) (g0 : ∃ cs, RdH w 0 w.heap.size v0 cs) (g1 : ∃ cs, SlC4 w 0 w.heap.size v1 cs) (g2 : ∃ n : Int, v2 = .int .i64 n) :
    Calls Try.prog 9 #[v0, v1, v2] w fun e w' => e = .returned (.bool true) ∧ Below w.heap.size w w' := by
  obtain ⟨cs0, h0⟩ := g0
  obtain ⟨cs1, h1⟩ := g1
  obtain ⟨n2, rfl⟩ := g2
  exact walkL v0 cs0 v1 cs1 n2 w h0 h1

theorem own : ownKnob Try.prog.godebug = none := by kernel_rfl
theorem laidOut : laidOutB Try.prog = true := by kernel_rfl

set_option maxRecDepth 100000 in
theorem lifted (os : Os) (started : os.Started) (H : Type) (enc : TypeId × Value → H) :
    ReturnsInHanded {} Try.checked os 9 .any (Rows.fnExactUncalledOnSpec.pre6 enc Try.prog Try.f9 Rows.fnExactUncalledOnRow.domain false) (Rows.fnExactUncalledOnSpec.post enc Try.prog Try.f9 false true false false) := by
  refine returnsInHanded_of_change (C := Try.checked) own started (by kernel_rfl) Try.func9
    (ChangeSpec.witness6 (enc := enc) (C := Try.checked) false ⟨#[], #[.slice none 0 0, .slice none 0 0, .int .i64 0], []⟩ 8 (by kernel_rfl) (by kernel_rfl) (by kernel_rfl) (by kernel_rfl)) ?_
  intro W base args ds gs before hval0 hW hcnd _
  have hval : ∀ (j : Nat) t v, Try.f9.params[j]? = some t → args[j]? = some v → Value.okWide Try.prog W .any base t v := hval0
  have hW' := hW
  obtain ⟨p, q, hA0, hV, rfl, hfz, hnd⟩ := hW
  have hA : DataW.TrodAll enc Try.prog W 0 (fun _ => true) true Try.f9.params.toList args.toList ds p := hA0
  rw [Try.params9] at hA hval
  obtain ⟨v0, vs0, d0, ds0, p0, q0, hargs, rfl, rfl, h0, r0⟩ := trodAll_cons hA
  obtain ⟨v1, vs1, d1, ds1, p1, q1, rfl, rfl, rfl, h1, r1⟩ := trodAll_cons r0
  obtain ⟨v2, vs2, d2, ds2, p2, q2, rfl, rfl, rfl, h2, r2⟩ := trodAll_cons r1
  obtain ⟨rfl, rfl, rfl⟩ := trodAll_nil r2
  obtain rfl : args = #[v0, v1, v2] := by cases args; simp_all
  obtain ⟨rfl, rfl⟩ := trodVars_none hV
  have lt0 : ∀ x ∈ p0, x.block < W.heap.size := by obtain ⟨m, hm⟩ := h0; exact DataW.trod_lt m _ _ _ hm
  have lt1 : ∀ x ∈ p1, x.block < W.heap.size := by obtain ⟨m, hm⟩ := h1; exact DataW.trod_lt m _ _ _ hm
  have lt2 : ∀ x ∈ p2, x.block < W.heap.size := by obtain ⟨m, hm⟩ := h2; exact DataW.trod_lt m _ _ _ hm
  have g0 := open_SheetS (hval 0 22 v0 rfl rfl) h0
  have g1 := open_CallS (hval 1 45 v1 rfl rfl) h1
  have g2 := open_int64 (hval 2 2 v2 rfl rfl) h2
  clear hA0 hval0
  refine (walk v0 v1 v2 W g0 g1 g2).mono fun e W' ⟨he, bel⟩ => ?_
  subst he
  exact ⟨_, rfl, _, _, _, [], _, [], hW', trodAll_mk1 (shut_bool Try.underlying4 _), (trodAll_cons_mk (Below.trod laidOut (by kernel_rfl) (of_decide_eq_true (by kernel_rfl)) h0 bel lt0) (trodAll_cons_mk (Below.trod laidOut (by kernel_rfl) (of_decide_eq_true (by kernel_rfl)) h1 bel lt1) (trodAll_cons_mk (Below.trod laidOut (by kernel_rfl) (of_decide_eq_true (by kernel_rfl)) h2 bel lt2) trodAll_mk0))), rfl, bel.frame _, fun h => by cases h⟩

theorem over : Rows.fnExactUncalledOnRow.holds Try.pinned (OpenSpec.ofChange Rows.fnExactUncalledOnSpec) :=
  OpenClaim.holds_of_wide 9 Try.f9 rfl rfl rfl rfl rfl rfl rfl ⟨rfl, rfl, rfl, rfl, rfl⟩ rfl rfl rfl rfl rfl (by kernel_rfl) Try.func9 (by kernel_rfl)
    (of_decide_eq_true (by kernel_rfl)) (by unfold Func.isWrapper; first | (rw [if_pos (by decide +kernel)]; kernel_rfl) | (rw [if_neg (by decide +kernel)]; exact ⟨rfl, rfl⟩))
    (fun os started H enc _ => lifted os started H enc)

theorem proved : Rows.FnExactUncalledOnSaid := over
#print axioms proved
end Go.Proofs.Ytemnodbffkcjcaa.lawFnExactUncalledOn

