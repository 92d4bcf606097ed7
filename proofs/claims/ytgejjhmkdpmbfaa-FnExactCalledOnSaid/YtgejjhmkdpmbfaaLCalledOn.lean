/- FnExactCalledOn: for every input the law returns true, and each argument reads as it did. No condition. -/
import Derived.Test.YtgejjhmkdpmbfaaCallC
import Derived.Test.YtgejjhmkdpmbfaaFrame
namespace Go.Proofs.Ytgejjhmkdpmbfaa.lawFnExactCalledOn
open Go.ChangeShapes Go.WideShapes Go.ChangeAt Go.RowKit

set_option maxHeartbeats 4000000 in
theorem walkL (v0 : Value) (cs0 : List C4) (n1 : Int) (w : World) (h0 : SlC4 w 0 w.heap.size v0 cs0) :
    Calls Try.prog 4 #[v0, .int .i64 n1] w fun e w' => e = .returned (.bool true) ∧ Below w.heap.size w w' := by
  have hL : (calledOnF cs0 n1).1.length ≤ cs0.length := calledOnF_len cs0 n1
  obtain ⟨A0, c0, e0, b0, b0'⟩ := SlR.form h0
  have E0 := Lib.hid e0
  clear e0
  have hB0 : Below w.heap.size w w := Below.refl _ _
  go_enter Try.func4, Try.ntmps4
  go_wp2_with fail
  rcases Nat.lt_or_ge 1048576 cs0.length with hs0 | hs0
  · refine (szCallS_big v0 cs0 w h0 hs0).mono ?_
    rintro e w1 ⟨rfl, rfl⟩
    go_wp2_with fail
    go_ret
    exact ⟨rfl, hB0⟩
  have hk0 : (0 : Int) ≤ 1048576 - (cs0.length : Int) := by omega
  refine (szCallS_small v0 cs0 w h0 hs0).mono ?_
  rintro e w1 ⟨rfl, rfl⟩
  go_wp2_with fail
  refine (toCallS_any v0 cs0 _ 0 (SlR.more h0 (Nat.le_refl _) (by omega)) hs0).mono ?_
  rintro e w1 ⟨x1, rfl, o1, hb1⟩
  have bd1 := Lib.hid (World.ownsRow.lt (OwnR.own o1))
  have z1 := hb1.size
  have h0 := SlR.below h0 hb1 (by omega)
  have B1 := Below.trans hB0 (Below.mono hb1 (by omega))
  go_wp2_with fail
  refine (specCalledOn_any x1 cs0 n1 _ _ (own_slC4 o1) (by omega)).mono ?_
  rintro e w2 ⟨x2, rfl, o2, hb2⟩
  have bd2 := Lib.hid (World.ownsRow.lt (OwnR.own o2))
  have z2 := hb2.size
  have h0 := SlR.below h0 hb2 (by omega)
  have o1 := OwnR.below o1 hb2
  have B2 := Below.trans B1 (Below.mono hb2 (by omega))
  clear B1
  go_wp2_with fail
  refine (toCallS_any v0 cs0 _ 0 (SlR.more h0 (Nat.le_refl _) (by omega)) hs0).mono ?_
  rintro e w3 ⟨x3, rfl, o3, hb3⟩
  have bd3 := Lib.hid (World.ownsRow.lt (OwnR.own o3))
  have z3 := hb3.size
  have h0 := SlR.below h0 hb3 (by omega)
  have o2 := OwnR.below o2 hb3
  have B3 := Below.trans B2 (Below.mono hb3 (by omega))
  clear B2
  go_wp2_with fail
  refine (implCalledOn_any x3 cs0 n1 _ _ (own_slC4 o3) (by omega)).mono ?_
  rintro e w4 ⟨x4, rfl, o4, hb4⟩
  have bd4 := Lib.hid (World.ownsRow.lt (OwnR.own o4))
  have z4 := hb4.size
  have h0 := SlR.below h0 hb4 (by omega)
  have o2 := OwnR.below o2 hb4
  have o3 := OwnR.below o3 hb4
  have B4 := Below.trans B3 (Below.mono hb4 (by omega))
  clear B3
  go_wp2_with fail
  refine (eqInt64S_any x4 x2 (calledOnF cs0 n1).1 (calledOnF cs0 n1).1 _ _ _ (own_slI o4) (own_slI o2)).mono ?_
  rintro e w5 ⟨rfl, hb5⟩
  have z5 := hb5.size
  have h0 := SlR.below h0 hb5 (by omega)
  have o2 := OwnR.below o2 hb5
  have o3 := OwnR.below o3 hb5
  have o4 := OwnR.below o4 hb5
  have B5 := Below.trans B4 (Below.mono hb5 (by omega))
  clear B4
  go_wp2_with fail
  refine (toCallS_any v0 cs0 _ 0 (SlR.more h0 (Nat.le_refl _) (by omega)) hs0).mono ?_
  rintro e w6 ⟨x6, rfl, o6, hb6⟩
  have bd6 := Lib.hid (World.ownsRow.lt (OwnR.own o6))
  have z6 := hb6.size
  have h0 := SlR.below h0 hb6 (by omega)
  have o2 := OwnR.below o2 hb6
  have o3 := OwnR.below o3 hb6
  have o4 := OwnR.below o4 hb6
  have B6 := Below.trans B5 (Below.mono hb6 (by omega))
  clear B5
  go_wp2_with fail
  refine (eqCallS_any x3 x6 cs0 cs0 _ _ _ (own_slC4 o3) (own_slC4 o6)).mono ?_
  rintro e w7 ⟨rfl, hb7⟩
  have z7 := hb7.size
  have h0 := SlR.below h0 hb7 (by omega)
  have o2 := OwnR.below o2 hb7
  have o3 := OwnR.below o3 hb7
  have o4 := OwnR.below o4 hb7
  have o6 := OwnR.below o6 hb7
  have B7 := Below.trans B6 (Below.mono hb7 (by omega))
  clear B6
  go_wp2_with fail
  refine (markCallS_any x3 _ _ 1 _ _ (OwnR.own o3) (by omega) (by omega) (by omega)).mono ?_
  rintro e w8 ⟨rfl, m8, hg8⟩
  have z8 := hg8.size
  have g8 : ∀ g, x3.ownBlock = some g → _ := bd3.out
  have h0 := SlR.grown h0 hg8 (by omega) (fun g hg => by have := g8 g hg; omega)
  have o2 := OwnR.grown' o2 hg8 (fun g k hg hk => by have := g8 g hg; have := bd2.out k hk; omega)
  have o4 := OwnR.grown' o4 hg8 (fun g k hg hk => by have := g8 g hg; have := bd4.out k hk; omega)
  have B8 := Below.grown B7 hg8 (by omega) (fun g hg => by have := g8 g hg; omega)
  clear g8
  clear B7
  go_wp2_with fail
  refine (eqInt64S_any x4 x2 (calledOnF cs0 n1).1 (calledOnF cs0 n1).1 _ _ _ (own_slI o4) (own_slI o2)).mono ?_
  rintro e w9 ⟨rfl, hb9⟩
  have z9 := hb9.size
  have h0 := SlR.below h0 hb9 (by omega)
  have o2 := OwnR.below o2 hb9
  have o4 := OwnR.below o4 hb9
  have B9 := Below.trans B8 (Below.mono hb9 (by omega))
  clear B8
  go_wp2_with fail
  refine (markInt64S_any x4 _ _ 1 _ _ (OwnR.own o4) (by omega) (by omega) (by omega)).mono ?_
  rintro e w10 ⟨rfl, m10, hg10⟩
  have z10 := hg10.size
  have g10 : ∀ g, x4.ownBlock = some g → _ := bd4.out
  have h0 := SlR.grown h0 hg10 (by omega) (fun g hg => by have := g10 g hg; omega)
  have o2 := OwnR.grown' o2 hg10 (fun g k hg hk => by have := g10 g hg; have := bd2.out k hk; omega)
  have B10 := Below.grown B9 hg10 (by omega) (fun g hg => by have := g10 g hg; omega)
  clear g10
  clear B9
  go_wp2_with fail
  refine (heldInt64S_any x4 _ 1 _ _ _ (own_slI m10) (by omega) (by omega) (by omega)).mono ?_
  rintro e w1010 ⟨rfl, rfl⟩
  go_wp2_with fail
  refine (toCallS_any v0 cs0 _ 0 (SlR.more h0 (Nat.le_refl _) (by omega)) hs0).mono ?_
  rintro e w11 ⟨x11, rfl, o11, hb11⟩
  have bd11 := Lib.hid (World.ownsRow.lt (OwnR.own o11))
  have z11 := hb11.size
  have h0 := SlR.below h0 hb11 (by omega)
  have o2 := OwnR.below o2 hb11
  have m10 := OwnR.below m10 hb11
  have B11 := Below.trans B10 (Below.mono hb11 (by omega))
  clear B10
  go_wp2_with fail
  refine (implCalledOn_any x11 cs0 n1 _ _ (own_slC4 o11) (by omega)).mono ?_
  rintro e w12 ⟨x12, rfl, o12, hb12⟩
  have bd12 := Lib.hid (World.ownsRow.lt (OwnR.own o12))
  have z12 := hb12.size
  have h0 := SlR.below h0 hb12 (by omega)
  have o2 := OwnR.below o2 hb12
  have m10 := OwnR.below m10 hb12
  have o11 := OwnR.below o11 hb12
  have B12 := Below.trans B11 (Below.mono hb12 (by omega))
  clear B11
  go_wp2_with fail
  refine (eqInt64S_any x12 x2 (calledOnF cs0 n1).1 (calledOnF cs0 n1).1 _ _ _ (own_slI o12) (own_slI o2)).mono ?_
  rintro e w13 ⟨rfl, hb13⟩
  have z13 := hb13.size
  have h0 := SlR.below h0 hb13 (by omega)
  have o2 := OwnR.below o2 hb13
  have m10 := OwnR.below m10 hb13
  have o11 := OwnR.below o11 hb13
  have o12 := OwnR.below o12 hb13
  have B13 := Below.trans B12 (Below.mono hb13 (by omega))
  clear B12
  go_wp2_with fail
  refine (heldInt64S_any x4 _ 1 _ _ _ (own_slI m10) (by omega) (by omega) (by omega)).mono ?_
  rintro e w1013 ⟨rfl, rfl⟩
  go_wp2_with fail
  go_ret
  exact ⟨rfl, B13⟩

theorem walk (v0 : Value) (v1 : Value) (w : World) (g0 : ∃ cs, SlC4 w 0 w.heap.size v0 cs) (g1 : ∃ n : Int, v1 = .int .i64 n) :
    Calls Try.prog 4 #[v0, v1] w fun e w' => e = .returned (.bool true) ∧ Below w.heap.size w w' := by
  obtain ⟨cs0, h0⟩ := g0
  obtain ⟨n1, rfl⟩ := g1
  exact walkL v0 cs0 n1 w h0

theorem own : ownKnob Try.prog.godebug = none := by kernel_rfl
theorem laidOut : laidOutB Try.prog = true := by kernel_rfl

set_option maxRecDepth 100000 in
theorem lifted (os : Os) (started : os.Started) (H : Type) (enc : TypeId × Value → H) :
    ReturnsInHanded {} Try.checked os 4 .any (Rows.fnExactCalledOnSpec.pre6 enc Try.prog Try.f4 Rows.fnExactCalledOnRow.domain false) (Rows.fnExactCalledOnSpec.post enc Try.prog Try.f4 false true false false) := by
  refine returnsInHanded_of_change (C := Try.checked) own started (by kernel_rfl) Try.func4
    (ChangeSpec.witness6 (enc := enc) (C := Try.checked) false ⟨#[], #[.slice none 0 0, .int .i64 0], []⟩ 8 (by kernel_rfl) (by kernel_rfl) (by kernel_rfl) (by kernel_rfl)) ?_
  intro W base args ds gs before hval0 hW hcnd _
  have hval : ∀ (j : Nat) t v, Try.f4.params[j]? = some t → args[j]? = some v → Value.okWide Try.prog W .any base t v := hval0
  have hW' := hW
  obtain ⟨p, q, hA0, hV, rfl, hfz, hnd⟩ := hW
  have hA : DataW.TrodAll enc Try.prog W 0 (fun _ => true) true Try.f4.params.toList args.toList ds p := hA0
  rw [Try.params4] at hA hval
  obtain ⟨v0, vs0, d0, ds0, p0, q0, hargs, rfl, rfl, h0, r0⟩ := trodAll_cons hA
  obtain ⟨v1, vs1, d1, ds1, p1, q1, rfl, rfl, rfl, h1, r1⟩ := trodAll_cons r0
  obtain ⟨rfl, rfl, rfl⟩ := trodAll_nil r1
  obtain rfl : args = #[v0, v1] := by cases args; simp_all
  obtain ⟨rfl, rfl⟩ := trodVars_none hV
  have lt0 : ∀ x ∈ p0, x.block < W.heap.size := by obtain ⟨m, hm⟩ := h0; exact DataW.trod_lt m _ _ _ hm
  have lt1 : ∀ x ∈ p1, x.block < W.heap.size := by obtain ⟨m, hm⟩ := h1; exact DataW.trod_lt m _ _ _ hm
  have g0 := open_CallS (hval 0 22 v0 rfl rfl) h0
  have g1 := open_int64 (hval 1 2 v1 rfl rfl) h1
  clear hA0 hval0
  refine (walk v0 v1 W g0 g1).mono fun e W' ⟨he, bel⟩ => ?_
  subst he
  exact ⟨_, rfl, _, _, _, [], _, [], hW', trodAll_mk1 (shut_bool Try.underlying4 _), (trodAll_cons_mk (Below.trod laidOut (by kernel_rfl) (of_decide_eq_true (by kernel_rfl)) h0 bel lt0) (trodAll_cons_mk (Below.trod laidOut (by kernel_rfl) (of_decide_eq_true (by kernel_rfl)) h1 bel lt1) trodAll_mk0)), rfl, bel.frame _, fun h => by cases h⟩

theorem over : Rows.fnExactCalledOnRow.holds Try.pinned (OpenSpec.ofChange Rows.fnExactCalledOnSpec) :=
  OpenClaim.holds_of_wide 4 Try.f4 rfl rfl rfl rfl rfl rfl rfl ⟨rfl, rfl, rfl, rfl, rfl⟩ rfl rfl rfl rfl rfl (by kernel_rfl) Try.func4 (by kernel_rfl)
    (of_decide_eq_true (by kernel_rfl)) (by unfold Func.isWrapper; first | (rw [if_pos (by decide +kernel)]; kernel_rfl) | (rw [if_neg (by decide +kernel)]; exact ⟨rfl, rfl⟩))
    (fun os started H enc _ => lifted os started H enc)

theorem proved : Rows.FnExactCalledOnSaid := over
#print axioms proved
end Go.Proofs.Ytgejjhmkdpmbfaa.lawFnExactCalledOn

