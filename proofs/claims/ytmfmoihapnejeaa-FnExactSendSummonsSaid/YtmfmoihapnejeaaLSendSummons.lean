/- FnExactSendSummons: for every input the law returns true, and each argument reads as it did. No condition. -/
import Derived.Test.YtmfmoihapnejeaaSummG
import Derived.Test.YtmfmoihapnejeaaFrame
namespace Go.Proofs.Ytmfmoihapnejeaa.lawFnExactSendSummons
open Go.ChangeShapes Go.WideShapes Go.ChangeAt Go.RowKit

set_option maxRecDepth 100000 in
set_option maxHeartbeats 4000000 in
theorem walkL (v0 : Value) (cs0 : List Int) (v1 : Value) (cs1 : List S5) (n2 : Int) (n3 : Int) (n4 : Int) (w : World) (h0 : SlI w 0 w.heap.size v0 cs0) (h1 : SlS5 w 0 w.heap.size v1 cs1) :
    Calls Try.prog 11 #[v0, v1, .int .i64 n2, .int .i64 n3, .int .i64 n4] w fun e w' => e = .returned (.bool true) ∧ Below w.heap.size w w' := by
  have hL : (sendF cs0 cs1 n2 n3 n4).1.length ≤ cs1.length + 1 := sendF_len cs0 cs1 n2 n3 n4
  obtain ⟨A0, c0, rfl, b0, b0'⟩ := h0.form
  have hB0 : Below w.heap.size w w := Below.refl _ _
  have hq : (0:Int) ≤ 1048576 ∧ (1048576:Int) ≤ 1048576 := by omega
  rcases Nat.lt_or_ge 1048576 cs0.length with hs0 | hs0
  · have hg : decide ((1048576 : Int) < (cs0.length : Int)) = true := by simp; omega
    go_enter Try.func11, Try.ntmps11
    go_wp2_with fail
    go_ret
    exact ⟨rfl, hB0⟩
  have hg0 : decide ((1048576 : Int) < (cs0.length : Int)) = false := by simp; omega
  go_enter Try.func11, Try.ntmps11
  go_wp2_with fail
  refine (szSummonsS_u v1 cs1 1048576 _ h1 (by omega) (by omega) (by omega)).mono ?_
  rintro e w1 ⟨r1, rfl, hr1, hs1, hb1⟩
  have z1 := hb1.size
  have h0 := h0.below hb1 (by omega)
  have h1 := h1.below hb1 (by omega)
  have B1 := Below.trans hB0 (Below.mono hb1 (by omega))
  clear hb1
  rcases (by omega : r1 < 0 ∨ 0 ≤ r1) with hn1 | hn1
  · go_wp2_with fail
    go_ret
    exact ⟨rfl, B1⟩
  have hs1 := hs1 hn1
  go_wp2_with fail
  refine (toInt64S_any (.slice A0 cs0.length c0) cs0 _ 0 (h0.more (Nat.le_refl _) (by omega)) hs0).mono ?_
  rintro e w2 ⟨x2, rfl, o2, hb2⟩
  have z2 := hb2.size
  have h0 := h0.below hb2 (by omega)
  have h1 := h1.below hb2 (by omega)
  have B2 := Below.trans B1 (Below.mono hb2 (by omega))
  clear hb2
  clear B1
  have o2 := OwI.of o2
  go_wp2_with fail
  refine (toSummonsS_any v1 cs1 _ 0 (h1.more (Nat.le_refl _) (by omega)) hs1).mono ?_
  rintro e w3 ⟨x3, rfl, o3, hb3⟩
  have z3 := hb3.size
  have h0 := h0.below hb3 (by omega)
  have h1 := h1.below hb3 (by omega)
  have o2 := o2.below hb3
  have B3 := Below.trans B2 (Below.mono hb3 (by omega))
  clear hb3
  clear B2
  have o3 := OwI.of o3
  go_wp2_with fail
  refine (specSendSummons_any x2 cs0 x3 cs1 n2 n3 n4 _ _ (OwI.rd (fun _ => rfl) o2) _ (OwI.rd (fun _ => rfl) o3) ).mono ?_
  rintro e w4 ⟨x4, rfl, o4, hb4⟩
  have z4 := hb4.size
  have h0 := h0.below hb4 (by omega)
  have h1 := h1.below hb4 (by omega)
  have o2 := o2.below hb4
  have o3 := o3.below hb4
  have B4 := Below.trans B3 (Below.mono hb4 (by omega))
  clear hb4
  clear B3
  have o4 := OwI.of o4
  clear o2
  clear o3
  go_wp2_with fail
  refine (toInt64S_any (.slice A0 cs0.length c0) cs0 _ 0 (h0.more (Nat.le_refl _) (by omega)) hs0).mono ?_
  rintro e w5 ⟨x5, rfl, o5, hb5⟩
  have z5 := hb5.size
  have h0 := h0.below hb5 (by omega)
  have h1 := h1.below hb5 (by omega)
  have o4 := o4.below hb5
  have B5 := Below.trans B4 (Below.mono hb5 (by omega))
  clear hb5
  clear B4
  have o5 := OwI.of o5
  go_wp2_with fail
  refine (toSummonsS_any v1 cs1 _ 0 (h1.more (Nat.le_refl _) (by omega)) hs1).mono ?_
  rintro e w6 ⟨x6, rfl, o6, hb6⟩
  have z6 := hb6.size
  have h0 := h0.below hb6 (by omega)
  have h1 := h1.below hb6 (by omega)
  have o4 := o4.below hb6
  have o5 := o5.below hb6
  have B6 := Below.trans B5 (Below.mono hb6 (by omega))
  clear hb6
  clear B5
  have o6 := OwI.of o6
  go_wp2_with fail
  refine (implSendSummons_any x5 cs0 x6 cs1 n2 n3 n4 _ _ (OwI.rd (fun _ => rfl) o5) _ (OwI.rd (fun _ => rfl) o6) ).mono ?_
  rintro e w7 ⟨x7, rfl, o7, hb7⟩
  have z7 := hb7.size
  have h0 := h0.below hb7 (by omega)
  have h1 := h1.below hb7 (by omega)
  have o4 := o4.below hb7
  have o5 := o5.below hb7
  have o6 := o6.below hb7
  have B7 := Below.trans B6 (Below.mono hb7 (by omega))
  clear hb7
  clear B6
  have o7 := OwI.of o7
  go_wp2_with fail
  refine (eqSummonsS_any x7 x4 (sendF cs0 cs1 n2 n3 n4).1 (sendF cs0 cs1 n2 n3 n4).1 _ _ _ (OwI.rd (fun _ => rfl) o7) (OwI.rd (fun _ => rfl) o4)).mono ?_
  rintro e w8 ⟨rfl, hb8⟩
  have z8 := hb8.size
  have h0 := h0.below hb8 (by omega)
  have h1 := h1.below hb8 (by omega)
  have o4 := o4.below hb8
  have o5 := o5.below hb8
  have o6 := o6.below hb8
  have o7 := o7.below hb8
  have B8 := Below.trans B7 (Below.mono hb8 (by omega))
  clear hb8
  clear B7
  go_wp2_with fail
  refine (toInt64S_any (.slice A0 cs0.length c0) cs0 _ 0 (h0.more (Nat.le_refl _) (by omega)) hs0).mono ?_
  rintro e w9 ⟨x9, rfl, o9, hb9⟩
  have z9 := hb9.size
  have h0 := h0.below hb9 (by omega)
  have h1 := h1.below hb9 (by omega)
  have o4 := o4.below hb9
  have o5 := o5.below hb9
  have o6 := o6.below hb9
  have o7 := o7.below hb9
  have B9 := Below.trans B8 (Below.mono hb9 (by omega))
  clear hb9
  clear B8
  have o9 := OwI.of o9
  go_wp2_with fail
  refine (eqInt64S_any x5 x9 cs0 cs0 _ _ _ (OwI.rd (fun _ => rfl) o5) (OwI.rd (fun _ => rfl) o9)).mono ?_
  rintro e w10 ⟨rfl, hb10⟩
  have z10 := hb10.size
  have h0 := h0.below hb10 (by omega)
  have h1 := h1.below hb10 (by omega)
  have o4 := o4.below hb10
  have o5 := o5.below hb10
  have o6 := o6.below hb10
  have o7 := o7.below hb10
  have o9 := o9.below hb10
  have B10 := Below.trans B9 (Below.mono hb10 (by omega))
  clear hb10
  clear B9
  clear o9
  go_wp2_with fail
  refine (toSummonsS_any v1 cs1 _ 0 (h1.more (Nat.le_refl _) (by omega)) hs1).mono ?_
  rintro e w11 ⟨x11, rfl, o11, hb11⟩
  have z11 := hb11.size
  have h0 := h0.below hb11 (by omega)
  have h1 := h1.below hb11 (by omega)
  have o4 := o4.below hb11
  have o5 := o5.below hb11
  have o6 := o6.below hb11
  have o7 := o7.below hb11
  have B11 := Below.trans B10 (Below.mono hb11 (by omega))
  clear hb11
  clear B10
  have o11 := OwI.of o11
  go_wp2_with fail
  refine (eqSummonsS_any x6 x11 cs1 cs1 _ _ _ (OwI.rd (fun _ => rfl) o6) (OwI.rd (fun _ => rfl) o11)).mono ?_
  rintro e w12 ⟨rfl, hb12⟩
  have z12 := hb12.size
  have h0 := h0.below hb12 (by omega)
  have h1 := h1.below hb12 (by omega)
  have o4 := o4.below hb12
  have o5 := o5.below hb12
  have o6 := o6.below hb12
  have o7 := o7.below hb12
  have o11 := o11.below hb12
  have B12 := Below.trans B11 (Below.mono hb12 (by omega))
  clear hb12
  clear B11
  clear o11
  go_wp2_with fail
  have in13 := Lib.hid o5.in_
  refine (markInt64S_any x5 _ _ 1 _ _ (OwnR.own o5.own) (by omega) (by omega) (by omega)).mono ?_
  rintro e w13 ⟨rfl, m13, hg13⟩
  have hc13 := Chg.of_grown hg13 in13.out
  clear hg13 o5
  have z13 := hc13.size
  have h0 := h0.chg hc13 (by omega) (by omega)
  have h1 := h1.chg hc13 (by omega) (by omega)
  have o4 := o4.chg hc13 (by omega)
  have o6 := o6.chg hc13 (by omega)
  have o7 := o7.chg hc13 (by omega)
  have B13 := Chg.below B12 hc13 (by omega) (by omega)
  clear hc13
  clear B12
  have m13 : OwI _ _ _ _ _ _ _ _ := ⟨m13, fun g hg => (in13.out g hg).2⟩
  go_wp2_with fail
  have in14 := Lib.hid o6.in_
  refine (markSummonsS_any x6 _ _ (1 + (cs0.length : Int)) _ _ (OwnR.own o6.own) (by omega) (by omega) (by omega)).mono ?_
  rintro e w14 ⟨rfl, m14, hg14⟩
  have hc14 := Chg.of_grown hg14 in14.out
  clear hg14 o6
  have z14 := hc14.size
  have h0 := h0.chg hc14 (by omega) (by omega)
  have h1 := h1.chg hc14 (by omega) (by omega)
  have o4 := o4.chg hc14 (by omega)
  have o7 := o7.chg hc14 (by omega)
  have m13 := m13.chg hc14 (by omega)
  have B14 := Chg.below B13 hc14 (by omega) (by omega)
  clear hc14
  clear B13
  have m14 : OwI _ _ _ _ _ _ _ _ := ⟨m14, fun g hg => (in14.out g hg).2⟩
  clear m13
  clear m14
  go_wp2_with fail
  refine (eqSummonsS_any x7 x4 (sendF cs0 cs1 n2 n3 n4).1 (sendF cs0 cs1 n2 n3 n4).1 _ _ _ (OwI.rd (fun _ => rfl) o7) (OwI.rd (fun _ => rfl) o4)).mono ?_
  rintro e w15 ⟨rfl, hb15⟩
  have z15 := hb15.size
  have h0 := h0.below hb15 (by omega)
  have h1 := h1.below hb15 (by omega)
  have o4 := o4.below hb15
  have o7 := o7.below hb15
  have B15 := Below.trans B14 (Below.mono hb15 (by omega))
  clear hb15
  clear B14
  go_wp2_with fail
  have in16 := Lib.hid o7.in_
  refine (markSummonsS_any x7 _ _ 1 _ _ (OwnR.own o7.own) (by omega) (by omega) (by omega)).mono ?_
  rintro e w16 ⟨rfl, m16, hg16⟩
  have hc16 := Chg.of_grown hg16 in16.out
  clear hg16 o7
  have z16 := hc16.size
  have h0 := h0.chg hc16 (by omega) (by omega)
  have h1 := h1.chg hc16 (by omega) (by omega)
  have o4 := o4.chg hc16 (by omega)
  have B16 := Chg.below B15 hc16 (by omega) (by omega)
  clear hc16
  clear B15
  have m16 : OwI _ _ _ _ _ _ _ _ := ⟨m16, fun g hg => (in16.out g hg).2⟩
  go_wp2_with fail
  refine (heldSummonsS_any x7 _ 1 _ _ _ (OwI.rd (fun _ => rfl) m16) (by omega) (by omega) (by omega)).mono ?_
  rintro e w1016 ⟨rfl, rfl⟩
  go_wp2_with fail
  refine (toInt64S_any (.slice A0 cs0.length c0) cs0 _ 0 (h0.more (Nat.le_refl _) (by omega)) hs0).mono ?_
  rintro e w17 ⟨x17, rfl, o17, hb17⟩
  have z17 := hb17.size
  have h0 := h0.below hb17 (by omega)
  have h1 := h1.below hb17 (by omega)
  have o4 := o4.below hb17
  have m16 := m16.below hb17
  have B17 := Below.trans B16 (Below.mono hb17 (by omega))
  clear hb17
  clear B16
  have o17 := OwI.of o17
  go_wp2_with fail
  refine (toSummonsS_any v1 cs1 _ 0 (h1.more (Nat.le_refl _) (by omega)) hs1).mono ?_
  rintro e w18 ⟨x18, rfl, o18, hb18⟩
  have z18 := hb18.size
  have h0 := h0.below hb18 (by omega)
  have h1 := h1.below hb18 (by omega)
  have o4 := o4.below hb18
  have m16 := m16.below hb18
  have o17 := o17.below hb18
  have B18 := Below.trans B17 (Below.mono hb18 (by omega))
  clear hb18
  clear B17
  have o18 := OwI.of o18
  go_wp2_with fail
  refine (implSendSummons_any x17 cs0 x18 cs1 n2 n3 n4 _ _ (OwI.rd (fun _ => rfl) o17) _ (OwI.rd (fun _ => rfl) o18) ).mono ?_
  rintro e w19 ⟨x19, rfl, o19, hb19⟩
  have z19 := hb19.size
  have h0 := h0.below hb19 (by omega)
  have h1 := h1.below hb19 (by omega)
  have o4 := o4.below hb19
  have m16 := m16.below hb19
  have o17 := o17.below hb19
  have o18 := o18.below hb19
  have B19 := Below.trans B18 (Below.mono hb19 (by omega))
  clear hb19
  clear B18
  have o19 := OwI.of o19
  go_wp2_with fail
  refine (eqSummonsS_any x19 x4 (sendF cs0 cs1 n2 n3 n4).1 (sendF cs0 cs1 n2 n3 n4).1 _ _ _ (OwI.rd (fun _ => rfl) o19) (OwI.rd (fun _ => rfl) o4)).mono ?_
  rintro e w20 ⟨rfl, hb20⟩
  have z20 := hb20.size
  have h0 := h0.below hb20 (by omega)
  have h1 := h1.below hb20 (by omega)
  have o4 := o4.below hb20
  have m16 := m16.below hb20
  have o17 := o17.below hb20
  have o18 := o18.below hb20
  have o19 := o19.below hb20
  have B20 := Below.trans B19 (Below.mono hb20 (by omega))
  clear hb20
  clear B19
  go_wp2_with fail
  refine (heldSummonsS_any x7 _ 1 _ _ _ (OwI.rd (fun _ => rfl) m16) (by omega) (by omega) (by omega)).mono ?_
  rintro e w1020 ⟨rfl, rfl⟩
  go_wp2_with fail
  go_ret
  exact ⟨rfl, B20⟩

theorem walk (v0 : Value) (v1 : Value) (v2 : Value) (v3 : Value) (v4 : Value) (w : World) (g0 : ∃ cs, SlI w 0 w.heap.size v0 cs) (g1 : ∃ cs, SlS5 w 0 w.heap.size v1 cs) (g2 : ∃ n : Int, v2 = .int .i64 n) (g3 : ∃ n : Int, v3 = .int .i64 n) (g4 : ∃ n : Int, v4 = .int .i64 n) :
    Calls Try.prog 11 #[v0, v1, v2, v3, v4] w fun e w' => e = .returned (.bool true) ∧ Below w.heap.size w w' := by
  obtain ⟨cs0, h0⟩ := g0
  obtain ⟨cs1, h1⟩ := g1
  obtain ⟨n2, rfl⟩ := g2
  obtain ⟨n3, rfl⟩ := g3
  obtain ⟨n4, rfl⟩ := g4
  exact walkL v0 cs0 v1 cs1 n2 n3 n4 w h0 h1

theorem own : ownKnob Try.prog.godebug = none := by kernel_rfl
theorem laidOut : laidOutB Try.prog = true := by kernel_rfl

set_option maxRecDepth 100000 in
theorem lifted (os : Os) (started : os.Started) (H : Type) (enc : TypeId × Value → H) :
    ReturnsInHanded {} Try.checked os 11 .any (Rows.fnExactSendSummonsSpec.pre6 enc Try.prog Try.f11 Rows.fnExactSendSummonsRow.domain false) (Rows.fnExactSendSummonsSpec.post enc Try.prog Try.f11 false true false false) := by
  refine returnsInHanded_of_change (C := Try.checked) own started (by kernel_rfl) Try.func11
    (ChangeSpec.witness6 (enc := enc) (C := Try.checked) false ⟨#[], #[.slice none 0 0, .slice none 0 0, .int .i64 0, .int .i64 0, .int .i64 0], []⟩ 8 (by kernel_rfl) (by kernel_rfl) (by kernel_rfl) (by kernel_rfl)) ?_
  intro W base args ds gs before hval0 hW hcnd _
  have hval : ∀ (j : Nat) t v, Try.f11.params[j]? = some t → args[j]? = some v → Value.okWide Try.prog W .any base t v := hval0
  have hW' := hW
  obtain ⟨p, q, hA0, hV, rfl, hfz, hnd⟩ := hW
  have hA : DataW.TrodAll enc Try.prog W 0 (fun _ => true) true Try.f11.params.toList args.toList ds p := hA0
  rw [Try.params11] at hA hval
  obtain ⟨v0, vs0, d0, ds0, p0, q0, hargs, rfl, rfl, h0, r0⟩ := trodAll_cons hA
  obtain ⟨v1, vs1, d1, ds1, p1, q1, rfl, rfl, rfl, h1, r1⟩ := trodAll_cons r0
  obtain ⟨v2, vs2, d2, ds2, p2, q2, rfl, rfl, rfl, h2, r2⟩ := trodAll_cons r1
  obtain ⟨v3, vs3, d3, ds3, p3, q3, rfl, rfl, rfl, h3, r3⟩ := trodAll_cons r2
  obtain ⟨v4, vs4, d4, ds4, p4, q4, rfl, rfl, rfl, h4, r4⟩ := trodAll_cons r3
  obtain ⟨rfl, rfl, rfl⟩ := trodAll_nil r4
  obtain rfl : args = #[v0, v1, v2, v3, v4] := by cases args; simp_all
  obtain ⟨rfl, rfl⟩ := trodVars_none hV
  have lt0 : ∀ x ∈ p0, x.block < W.heap.size := by obtain ⟨m, hm⟩ := h0; exact DataW.trod_lt m _ _ _ hm
  have lt1 : ∀ x ∈ p1, x.block < W.heap.size := by obtain ⟨m, hm⟩ := h1; exact DataW.trod_lt m _ _ _ hm
  have lt2 : ∀ x ∈ p2, x.block < W.heap.size := by obtain ⟨m, hm⟩ := h2; exact DataW.trod_lt m _ _ _ hm
  have lt3 : ∀ x ∈ p3, x.block < W.heap.size := by obtain ⟨m, hm⟩ := h3; exact DataW.trod_lt m _ _ _ hm
  have lt4 : ∀ x ∈ p4, x.block < W.heap.size := by obtain ⟨m, hm⟩ := h4; exact DataW.trod_lt m _ _ _ hm
  have g0 := open_Int64S (hval 0 32 v0 rfl rfl) h0
  have g1 := open_SummonsS (hval 1 22 v1 rfl rfl) h1
  have g2 := open_int64 (hval 2 2 v2 rfl rfl) h2
  have g3 := open_int64 (hval 3 2 v3 rfl rfl) h3
  have g4 := open_int64 (hval 4 2 v4 rfl rfl) h4
  clear hA0 hval0
  refine (walk v0 v1 v2 v3 v4 W g0 g1 g2 g3 g4).mono fun e W' ⟨he, bel⟩ => ?_
  subst he
  exact ⟨_, rfl, _, _, _, [], _, [], hW', trodAll_mk1 (shut_bool Try.underlying4 _), (trodAll_cons_mk (Below.trod laidOut (by kernel_rfl) (of_decide_eq_true (by kernel_rfl)) h0 bel lt0) (trodAll_cons_mk (Below.trod laidOut (by kernel_rfl) (of_decide_eq_true (by kernel_rfl)) h1 bel lt1) (trodAll_cons_mk (Below.trod laidOut (by kernel_rfl) (of_decide_eq_true (by kernel_rfl)) h2 bel lt2) (trodAll_cons_mk (Below.trod laidOut (by kernel_rfl) (of_decide_eq_true (by kernel_rfl)) h3 bel lt3) (trodAll_cons_mk (Below.trod laidOut (by kernel_rfl) (of_decide_eq_true (by kernel_rfl)) h4 bel lt4) trodAll_mk0))))), rfl, bel.frame _, fun h => by cases h⟩

theorem over : Rows.fnExactSendSummonsRow.holds Try.pinned (OpenSpec.ofChange Rows.fnExactSendSummonsSpec) :=
  OpenClaim.holds_of_wide 11 Try.f11 rfl rfl rfl rfl rfl rfl rfl ⟨rfl, rfl, rfl, rfl, rfl⟩ rfl rfl rfl rfl rfl (by kernel_rfl) Try.func11 (by kernel_rfl)
    (of_decide_eq_true (by kernel_rfl)) (by unfold Func.isWrapper; first | (rw [if_pos (by decide +kernel)]; kernel_rfl) | (rw [if_neg (by decide +kernel)]; exact ⟨rfl, rfl⟩))
    (fun os started H enc _ => lifted os started H enc)

theorem proved : Rows.FnExactSendSummonsSaid := over
#print axioms proved
end Go.Proofs.Ytmfmoihapnejeaa.lawFnExactSendSummons

