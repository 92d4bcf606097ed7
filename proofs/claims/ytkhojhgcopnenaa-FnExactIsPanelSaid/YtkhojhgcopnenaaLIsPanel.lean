/- FnExactIsPanel: for every panel the law returns true, and the argument reads as it did. No condition. -/
import Derived.Test.YtkhojhgcopnenaaPanC
import Derived.Deep.RegionHeld3
namespace Go.Proofs.Ytkhojhgcopnenaa.lawFnExactIsPanel
open Go.ChangeShapes Go.WideShapes Go.ChangeAt Go.RowKit

set_option maxRecDepth 100000 in
set_option maxHeartbeats 4000000 in
theorem walkL (v0 v1 v2 : Value) (p : N3) (w : World) (h0 : SlI w 0 w.heap.size v0 p.seats) (h1 : SlI w 0 w.heap.size v1 p.wait) (h2 : SlI w 0 w.heap.size v2 p.gone) :
    Calls Try.prog 3 #[.agg #[v0, v1, v2]] w fun e w' => e = .returned (.bool true) ∧ Below w.heap.size w w' := by
  go_enter Try.func3, Try.ntmps3
  go_wp2_with fail
  have b1 := Blk.new w 24 #[v0, v1, v2]
  have hB : Below w.heap.size w (w.alloc (.cells #[v0, v1, v2] 24)) := (Below.refl _ _).alloc (Nat.le_refl _) _
  generalize (w.alloc (.cells #[v0, v1, v2] 24)) = w0 at *
  have up : ∀ {v : Value} {zs : List Int} {w1 w2 : World}, SlI w1 0 w1.heap.size v zs → Below w1.heap.size w1 w2 → SlI w2 0 w2.heap.size v zs := fun h hb => (h.below hb (Nat.le_refl _)).more (Nat.le_refl _) hb.size
  refine (szPanel_u v0 v1 v2 _ _ _ w0 (up h0 hB) (up h1 hB) (up h2 hB)).mono ?_
  rintro e w1 ⟨q, rfl, hq, hb1⟩
  have hB1 := hB.trans (hb1.mono hB.size)
  rcases (by omega : q < 0 ∨ 0 ≤ q) with hn0 | hn0
  · go_wp2_with fail
    go_ret
    exact ⟨rfl, hB1⟩
  have hs := hq hn0
  have b1 := b1.below' hb1
  clear hq hB hb1
  have c0 : w1.cell? ⟨w.heap.size, 0, none⟩ = some v0 := b1.cell 0
  have c1 : w1.cell? ⟨w.heap.size, 1, none⟩ = some v1 := b1.cell 1
  have c2 : w1.cell? ⟨w.heap.size, 2, none⟩ = some v2 := b1.cell 2
  go_wp2_with fail
  clear c0 c1 c2
  refine (toPanel_any v0 v1 v2 _ _ _ w1 (up h0 hB1) (up h1 hB1) (up h2 hB1) (by omega) (by omega) (by omega)).mono ?_
  rintro e w2 ⟨x0, x1, x2, rfl, s0, s1, s2, hb2⟩
  have hB2 := hB1.trans (hb2.mono hB1.size)
  have b1 := b1.below' hb2
  clear hB1 hb2
  go_wp2_with fail
  refine (specIsPanel_any x0 x1 x2 p w2 0 s0 s1 s2 (by omega)).mono ?_
  rintro e w3 ⟨rfl, hb3⟩
  have hB3 := hB2.trans (hb3.mono hB2.size)
  have b1 := b1.below' hb3
  clear hB2 hb3 s0 s1 s2
  have c0 : w3.cell? ⟨w.heap.size, 0, none⟩ = some v0 := b1.cell 0
  have c1 : w3.cell? ⟨w.heap.size, 1, none⟩ = some v1 := b1.cell 1
  have c2 : w3.cell? ⟨w.heap.size, 2, none⟩ = some v2 := b1.cell 2
  go_wp2_with fail
  clear c0 c1 c2
  refine (toPanel_any v0 v1 v2 _ _ _ w3 (up h0 hB3) (up h1 hB3) (up h2 hB3) (by omega) (by omega) (by omega)).mono ?_
  rintro e w4 ⟨y0, y1, y2, rfl, s0, s1, s2, hb4⟩
  obtain ⟨X0, k0, rfl, _, _⟩ := s0.form
  obtain ⟨X1, k1, rfl, _, _⟩ := s1.form
  obtain ⟨X2, k2, rfl, _, _⟩ := s2.form
  have hB4 := hB3.trans (hb4.mono hB3.size)
  have b1 := b1.below' hb4
  clear hB3 hb4
  go_wp2_with fail
  have b2 := Blk.new w4 27 #[.slice X0 p.seats.length k0, .slice X1 p.wait.length k1, .slice X2 p.gone.length k2]
  have hA : Below w4.heap.size w4 (w4.alloc (.cells #[.slice X0 p.seats.length k0, .slice X1 p.wait.length k1, .slice X2 p.gone.length k2] 27)) := (Below.refl _ _).alloc (Nat.le_refl _) _
  generalize (w4.alloc (.cells #[.slice X0 p.seats.length k0, .slice X1 p.wait.length k1, .slice X2 p.gone.length k2] 27)) = w5 at *
  have hB5 := hB4.trans (hA.mono hB4.size)
  have b1 := b1.below' hA
  replace s0 := up s0 hA
  replace s1 := up s1 hA
  replace s2 := up s2 hA
  clear hB4 hA
  refine (implIsPanel_any _ _ _ p w5 0 s0 s1 s2 (by omega)).mono ?_
  rintro e w6 ⟨rfl, hb6⟩
  have hB6 : Below w.heap.size w w6.drew := (hB5.trans (hb6.mono hB5.size)).drew
  have b1 : Blk w6.drew w.heap.size 24 #[v0, v1, v2] := b1.below' hb6.drew
  have b2 : Blk w6.drew w4.heap.size 27 #[.slice X0 p.seats.length k0, .slice X1 p.wait.length k1, .slice X2 p.gone.length k2] := b2.below' hb6.drew
  replace s0 : SlI w6.drew 0 w6.drew.heap.size (.slice X0 p.seats.length k0) p.seats := up s0 hb6.drew
  replace s1 : SlI w6.drew 0 w6.drew.heap.size (.slice X1 p.wait.length k1) p.wait := up s1 hb6.drew
  replace s2 : SlI w6.drew 0 w6.drew.heap.size (.slice X2 p.gone.length k2) p.gone := up s2 hb6.drew
  have c0 : w6.cell? ⟨w.heap.size, 0, none⟩ = some v0 := b1.cell 0
  have c1 : w6.cell? ⟨w.heap.size, 1, none⟩ = some v1 := b1.cell 1
  have c2 : w6.cell? ⟨w.heap.size, 2, none⟩ = some v2 := b1.cell 2
  have d0 : w6.cell? ⟨w4.heap.size, 0, none⟩ = some (.slice X0 p.seats.length k0) := b2.cell 0
  have d1 : w6.cell? ⟨w4.heap.size, 1, none⟩ = some (.slice X1 p.wait.length k1) := b2.cell 1
  have d2 : w6.cell? ⟨w4.heap.size, 2, none⟩ = some (.slice X2 p.gone.length k2) := b2.cell 2
  have C1 := toPanel_any v0 v1 v2 _ _ _ w6.drew (up h0 hB6) (up h1 hB6) (up h2 hB6) (by omega) (by omega) (by omega)
  go_wp2_with fail
  go_region_held3 (fun w' => w'.cell? ⟨w.heap.size, 0, none⟩ = some v0 ∧ w'.cell? ⟨w.heap.size, 1, none⟩ = some v1 ∧ w'.cell? ⟨w.heap.size, 2, none⟩ = some v2 ∧ w'.cell? ⟨w4.heap.size, 0, none⟩ = some (.slice X0 p.seats.length k0) ∧ w'.cell? ⟨w4.heap.size, 1, none⟩ = some (.slice X1 p.wait.length k1) ∧ w'.cell? ⟨w4.heap.size, 2, none⟩ = some (.slice X2 p.gone.length k2)) (first | exact ⟨c0, c1, c2, d0, d1, d2⟩ | exact ⟨e0, e1, e2, f0, f1, f2⟩ | exact ⟨g0, g1, g2, i0, i1, i2⟩) (first
    | (go_at_call 11; (with_reducible refine C1.mono ?_); rintro e w7 ⟨z0, z1, z2, rfl, t0, t1, t2, hb7⟩; have e0 := (b1.below' hb7).cell 0; have e1 := (b1.below' hb7).cell 1; have e2 := (b1.below' hb7).cell 2; have f0 := (b2.below' hb7).cell 0; have f1 := (b2.below' hb7).cell 1; have f2 := (b2.below' hb7).cell 2)
    | (go_at_call 13; refine (eqPanel_same _ _ _ _ _ _ _ _ _ _ (up s0 hb7) (up s1 hb7) (up s2 hb7) t0 t1 t2).mono ?_; rintro e w8 ⟨rfl, hb8⟩; have g0 := ((b1.below' hb7).below' hb8).cell 0; have g1 := ((b1.below' hb7).below' hb8).cell 1; have g2 := ((b1.below' hb7).below' hb8).cell 2; have i0 := ((b2.below' hb7).below' hb8).cell 0; have i1 := ((b2.below' hb7).below' hb8).cell 1; have i2 := ((b2.below' hb7).below' hb8).cell 2))
  go_wp2_with fail
  go_ret
  exact ⟨rfl, hB6.trans ((hb7.mono hB6.size).trans (hb8.mono (Nat.le_trans hB6.size hb7.size)))⟩

theorem walk (v : Value) (w : World) (g : ∃ (v0 v1 v2 : Value) (q : N3), v = .agg #[v0, v1, v2] ∧ SlI w 0 w.heap.size v0 q.seats ∧ SlI w 0 w.heap.size v1 q.wait ∧ SlI w 0 w.heap.size v2 q.gone) :
    Calls Try.prog 3 #[v] w fun e w' => e = .returned (.bool true) ∧ Below w.heap.size w w' := by
  obtain ⟨v0, v1, v2, q, rfl, h0, h1, h2⟩ := g
  exact walkL v0 v1 v2 q w h0 h1 h2

theorem own : ownKnob Try.prog.godebug = none := by kernel_rfl
theorem laidOut : laidOutB Try.prog = true := by kernel_rfl

set_option maxRecDepth 100000 in
theorem lifted (os : Os) (started : os.Started) (H : Type) (enc : TypeId × Value → H) :
    ReturnsInHanded {} Try.checked os 3 .any (Rows.fnExactIsPanelSpec.pre6 enc Try.prog Try.f3 Rows.fnExactIsPanelRow.domain false) (Rows.fnExactIsPanelSpec.post enc Try.prog Try.f3 false true false false) := by
  refine returnsInHanded_of_change (C := Try.checked) own started (by kernel_rfl) Try.func3
    (ChangeSpec.witness6 (enc := enc) (C := Try.checked) false ⟨#[], #[.agg #[.slice none 0 0, .slice none 0 0, .slice none 0 0]], []⟩ 8 (by kernel_rfl) (by kernel_rfl) (by kernel_rfl) (by kernel_rfl)) ?_
  intro W base args ds gs before hval0 hW hcnd _
  have hval : ∀ (j : Nat) t v, Try.f3.params[j]? = some t → args[j]? = some v → Value.okWide Try.prog W .any base t v := hval0
  have hW' := hW
  obtain ⟨p, q, hA0, hV, rfl, hfz, hnd⟩ := hW
  have hA : DataW.TrodAll enc Try.prog W 0 (fun _ => true) true Try.f3.params.toList args.toList ds p := hA0
  rw [Try.params3] at hA hval
  obtain ⟨v0, vs0, d0, ds0, p0, q0, hargs, rfl, rfl, h0, r0⟩ := trodAll_cons hA
  obtain ⟨rfl, rfl, rfl⟩ := trodAll_nil r0
  obtain rfl : args = #[v0] := by cases args; simp_all
  obtain ⟨rfl, rfl⟩ := trodVars_none hV
  have lt0 : ∀ x ∈ p0, x.block < W.heap.size := by obtain ⟨m, hm⟩ := h0; exact DataW.trod_lt m _ _ _ hm
  have g0 := open_PanelV (hval 0 24 v0 rfl rfl) h0
  clear hA0 hval0
  refine (walk v0 W g0).mono fun e W' ⟨he, bel⟩ => ?_
  subst he
  exact ⟨_, rfl, _, _, _, [], _, [], hW', trodAll_mk1 (shut_bool Try.underlying4 _), (trodAll_cons_mk (Below.trod laidOut (by kernel_rfl) (of_decide_eq_true (by kernel_rfl)) h0 bel lt0) trodAll_mk0), rfl, bel.frame _, fun h => by cases h⟩

theorem over : Rows.fnExactIsPanelRow.holds Try.pinned (OpenSpec.ofChange Rows.fnExactIsPanelSpec) :=
  OpenClaim.holds_of_wide 3 Try.f3 rfl rfl rfl rfl rfl rfl rfl ⟨rfl, rfl, rfl, rfl, rfl⟩ rfl rfl rfl rfl rfl (by kernel_rfl) Try.func3 (by kernel_rfl)
    (of_decide_eq_true (by kernel_rfl)) (by unfold Func.isWrapper; first | (rw [if_pos (by decide +kernel)]; kernel_rfl) | (rw [if_neg (by decide +kernel)]; exact ⟨rfl, rfl⟩))
    (fun os started H enc _ => lifted os started H enc)

theorem proved : Rows.FnExactIsPanelSaid := over
#print axioms proved
end Go.Proofs.Ytkhojhgcopnenaa.lawFnExactIsPanel
