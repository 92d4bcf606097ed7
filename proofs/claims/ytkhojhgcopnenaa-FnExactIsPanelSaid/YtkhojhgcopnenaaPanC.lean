/- Panels: copies, comparisons, sizes, the reading of one. No condition but the sizes that the law itself asks. -/
import Derived.Test.YtkhojhgcopnenaaPanB
import Derived.Test.YtkhojhgcopnenaaFrame
namespace Go.Proofs.Ytkhojhgcopnenaa
open Go.ChangeShapes Go.WideShapes Go.ChangeAt Go.RowKit

set_option maxHeartbeats 2000000 in
theorem toPanel_any (v0 v1 v2 : Value) (a b c : List Int) (w : World) (h0 : SlI w 0 w.heap.size v0 a) (h1 : SlI w 0 w.heap.size v1 b) (h2 : SlI w 0 w.heap.size v2 c) (la : a.length ≤ 1048576) (lb : b.length ≤ 1048576) (lc : c.length ≤ 1048576) :
    Calls Try.prog 11 #[.agg #[v0, v1, v2]] w fun e w' => ∃ x0 x1 x2, e = .returned (.agg #[x0, x1, x2]) ∧ SlI w' 0 w'.heap.size x0 a ∧ SlI w' 0 w'.heap.size x1 b ∧ SlI w' 0 w'.heap.size x2 c ∧ Below w.heap.size w w' := by
  go_enter Try.func11, Try.ntmps11
  go_wp2_with fail
  have b1 : Blk (((w.alloc (.cells #[v0, v1, v2] 24)).alloc (.cells #[.slice none 0 0, .slice none 0 0, .slice none 0 0] 27)).alloc (.cells #[.slice none 0 0, .slice none 0 0, .slice none 0 0] 27)) w.heap.size _ _ := ((Blk.new w _ _).alloc _).alloc _
  have b2 : Blk (((w.alloc (.cells #[v0, v1, v2] 24)).alloc (.cells #[.slice none 0 0, .slice none 0 0, .slice none 0 0] 27)).alloc (.cells #[.slice none 0 0, .slice none 0 0, .slice none 0 0] 27)) (w.heap.size + 1) _ _ := (Blk.new' (by simp)).alloc _
  have b3 : Blk (((w.alloc (.cells #[v0, v1, v2] 24)).alloc (.cells #[.slice none 0 0, .slice none 0 0, .slice none 0 0] 27)).alloc (.cells #[.slice none 0 0, .slice none 0 0, .slice none 0 0] 27)) (w.heap.size + 1 + 1) _ _ := Blk.new' (by simp)
  have hB0 : Below w.heap.size w (((w.alloc (.cells #[v0, v1, v2] 24)).alloc (.cells #[.slice none 0 0, .slice none 0 0, .slice none 0 0] 27)).alloc (.cells #[.slice none 0 0, .slice none 0 0, .slice none 0 0] 27)) := (((Below.refl _ _).alloc (Nat.le_refl _) _).alloc (by simp) _).alloc (by simp; try omega) _
  generalize (((w.alloc (.cells #[v0, v1, v2] 24)).alloc (.cells #[.slice none 0 0, .slice none 0 0, .slice none 0 0] 27)).alloc (.cells #[.slice none 0 0, .slice none 0 0, .slice none 0 0] 27)) = W at *
  have hz := hB0.size
  have l3 := b3.lt
  replace h0 := h0.below hB0 (Nat.le_refl _)
  replace h1 := h1.below hB0 (Nat.le_refl _)
  replace h2 := h2.below hB0 (Nat.le_refl _)
  refine (toInt64S_any v0 a W 0 (h0.more (Nat.le_refl _) (by omega)) la).mono ?_
  rintro e w1 ⟨x0, rfl, o0, hb0⟩
  obtain ⟨X0, k0, rfl, _, _, _⟩ := own_form (OwnR.own o0)
  have s0 := own_slI o0
  clear o0
  have z0 := hb0.size
  replace b1 := b1.below' hb0
  replace b2 := b2.below' hb0
  replace b3 := b3.below' hb0
  replace h1 := SlR.below h1 hb0 (by omega)
  replace h2 := SlR.below h2 hb0 (by omega)
  have hB1 := hB0.trans (hb0.mono (by omega))
  clear hb0
  have c10 : w1.cell? ⟨w.heap.size, 0, none⟩ = some v0 := b1.cell 0
  have c20 : w1.cell? ⟨w.heap.size + 1, 0, none⟩ = some (.slice none 0 0) := b2.cell 0
  have c30 : w1.cell? ⟨w.heap.size + 1 + 1, 0, none⟩ = some (.slice none 0 0) := b3.cell 0
  have f20 := b2.frozen 0
  have f30 := b3.frozen 0
  have c11 : w1.cell? ⟨w.heap.size, 1, none⟩ = some v1 := b1.cell 1
  have c21 : w1.cell? ⟨w.heap.size + 1, 1, none⟩ = some (.slice none 0 0) := b2.cell 1
  have c31 : w1.cell? ⟨w.heap.size + 1 + 1, 1, none⟩ = some (.slice none 0 0) := b3.cell 1
  have f21 := b2.frozen 1
  have f31 := b3.frozen 1
  have c12 : w1.cell? ⟨w.heap.size, 2, none⟩ = some v2 := b1.cell 2
  have c22 : w1.cell? ⟨w.heap.size + 1, 2, none⟩ = some (.slice none 0 0) := b2.cell 2
  have c32 : w1.cell? ⟨w.heap.size + 1 + 1, 2, none⟩ = some (.slice none 0 0) := b3.cell 2
  have f22 := b2.frozen 2
  have f32 := b3.frozen 2
  go_wp2_with fail
  clear c10 c20 c30 f20 f30 c11 c21 c31 f21 f31 c12 c22 c32 f22 f32
  have hC0 : Below w.heap.size w (w1.setCell ⟨w.heap.size + 1 + 1, 0, none⟩ (.slice X0 a.length k0)) := hB1.setCell (by simp; try omega) _
  replace b1 := b1.far (p := ⟨w.heap.size + 1 + 1, 0, none⟩) (by simp; try omega) (.slice X0 a.length k0)
  replace b2 := b2.far (p := ⟨w.heap.size + 1 + 1, 0, none⟩) (by simp) (.slice X0 a.length k0)
  replace b3 : Blk (w1.setCell ⟨w.heap.size + 1 + 1, 0, none⟩ (.slice X0 a.length k0)) (w.heap.size + 1 + 1) 27 #[.slice X0 a.length k0, .slice none 0 0, .slice none 0 0] := b3.set_ 0 (.slice X0 a.length k0)
  replace s0 := s0.setCell ⟨w.heap.size + 1 + 1, 0, none⟩ (.slice X0 a.length k0) (.inl (by simp; try omega))
  replace h1 := h1.setCell ⟨w.heap.size + 1 + 1, 0, none⟩ (.slice X0 a.length k0) (.inr (by simp; try omega))
  replace h2 := h2.setCell ⟨w.heap.size + 1 + 1, 0, none⟩ (.slice X0 a.length k0) (.inr (by simp; try omega))
  have y0 := size_setCell w1 ⟨w.heap.size + 1 + 1, 0, none⟩ (.slice X0 a.length k0)
  generalize (w1.setCell ⟨w.heap.size + 1 + 1, 0, none⟩ (.slice X0 a.length k0)) = V0 at *
  replace s0 := s0.more (lo' := w.heap.size + 3) (hi' := V0.heap.size) (by omega) (by omega)
  refine (toInt64S_any v1 b V0 0 (h1.more (Nat.le_refl _) (by omega)) lb).mono ?_
  rintro e w2 ⟨x1, rfl, o1, hb1⟩
  obtain ⟨X1, k1, rfl, _, _, _⟩ := own_form (OwnR.own o1)
  have s1 := own_slI o1
  clear o1
  have z1 := hb1.size
  replace b1 := b1.below' hb1
  replace b2 := b2.below' hb1
  replace b3 := b3.below' hb1
  replace s0 := (s0.below hb1 (Nat.le_refl _)).more (Nat.le_refl _) hb1.size
  replace h2 := SlR.below h2 hb1 (by omega)
  have hB2 := hC0.trans (hb1.mono (by omega))
  clear hb1
  have c10 : w2.cell? ⟨w.heap.size, 0, none⟩ = some v0 := b1.cell 0
  have c20 : w2.cell? ⟨w.heap.size + 1, 0, none⟩ = some (.slice none 0 0) := b2.cell 0
  have c30 : w2.cell? ⟨w.heap.size + 1 + 1, 0, none⟩ = some (.slice X0 a.length k0) := b3.cell 0
  have f20 := b2.frozen 0
  have f30 := b3.frozen 0
  have c11 : w2.cell? ⟨w.heap.size, 1, none⟩ = some v1 := b1.cell 1
  have c21 : w2.cell? ⟨w.heap.size + 1, 1, none⟩ = some (.slice none 0 0) := b2.cell 1
  have c31 : w2.cell? ⟨w.heap.size + 1 + 1, 1, none⟩ = some (.slice none 0 0) := b3.cell 1
  have f21 := b2.frozen 1
  have f31 := b3.frozen 1
  have c12 : w2.cell? ⟨w.heap.size, 2, none⟩ = some v2 := b1.cell 2
  have c22 : w2.cell? ⟨w.heap.size + 1, 2, none⟩ = some (.slice none 0 0) := b2.cell 2
  have c32 : w2.cell? ⟨w.heap.size + 1 + 1, 2, none⟩ = some (.slice none 0 0) := b3.cell 2
  have f22 := b2.frozen 2
  have f32 := b3.frozen 2
  go_wp2_with fail
  clear c10 c20 c30 f20 f30 c11 c21 c31 f21 f31 c12 c22 c32 f22 f32
  have hC1 : Below w.heap.size w (w2.setCell ⟨w.heap.size + 1 + 1, 1, none⟩ (.slice X1 b.length k1)) := hB2.setCell (by simp; try omega) _
  replace b1 := b1.far (p := ⟨w.heap.size + 1 + 1, 1, none⟩) (by simp; try omega) (.slice X1 b.length k1)
  replace b2 := b2.far (p := ⟨w.heap.size + 1 + 1, 1, none⟩) (by simp) (.slice X1 b.length k1)
  replace b3 : Blk (w2.setCell ⟨w.heap.size + 1 + 1, 1, none⟩ (.slice X1 b.length k1)) (w.heap.size + 1 + 1) 27 #[.slice X0 a.length k0, .slice X1 b.length k1, .slice none 0 0] := b3.set_ 1 (.slice X1 b.length k1)
  replace s0 := s0.setCell ⟨w.heap.size + 1 + 1, 1, none⟩ (.slice X1 b.length k1) (.inl (by simp; try omega))
  replace s1 := s1.setCell ⟨w.heap.size + 1 + 1, 1, none⟩ (.slice X1 b.length k1) (.inl (by simp; try omega))
  replace h2 := h2.setCell ⟨w.heap.size + 1 + 1, 1, none⟩ (.slice X1 b.length k1) (.inr (by simp; try omega))
  have y1 := size_setCell w2 ⟨w.heap.size + 1 + 1, 1, none⟩ (.slice X1 b.length k1)
  generalize (w2.setCell ⟨w.heap.size + 1 + 1, 1, none⟩ (.slice X1 b.length k1)) = V1 at *
  replace s0 := s0.more (lo' := w.heap.size + 3) (hi' := V1.heap.size) (by omega) (by omega)
  replace s1 := s1.more (lo' := w.heap.size + 3) (hi' := V1.heap.size) (by omega) (by omega)
  refine (toInt64S_any v2 c V1 0 (h2.more (Nat.le_refl _) (by omega)) lc).mono ?_
  rintro e w3 ⟨x2, rfl, o2, hb2⟩
  obtain ⟨X2, k2, rfl, _, _, _⟩ := own_form (OwnR.own o2)
  have s2 := own_slI o2
  clear o2
  have z2 := hb2.size
  replace b1 := b1.below' hb2
  replace b2 := b2.below' hb2
  replace b3 := b3.below' hb2
  replace s0 := (s0.below hb2 (Nat.le_refl _)).more (Nat.le_refl _) hb2.size
  replace s1 := (s1.below hb2 (Nat.le_refl _)).more (Nat.le_refl _) hb2.size
  have hB3 := hC1.trans (hb2.mono (by omega))
  clear hb2
  have c10 : w3.cell? ⟨w.heap.size, 0, none⟩ = some v0 := b1.cell 0
  have c20 : w3.cell? ⟨w.heap.size + 1, 0, none⟩ = some (.slice none 0 0) := b2.cell 0
  have c30 : w3.cell? ⟨w.heap.size + 1 + 1, 0, none⟩ = some (.slice X0 a.length k0) := b3.cell 0
  have f20 := b2.frozen 0
  have f30 := b3.frozen 0
  have c11 : w3.cell? ⟨w.heap.size, 1, none⟩ = some v1 := b1.cell 1
  have c21 : w3.cell? ⟨w.heap.size + 1, 1, none⟩ = some (.slice none 0 0) := b2.cell 1
  have c31 : w3.cell? ⟨w.heap.size + 1 + 1, 1, none⟩ = some (.slice X1 b.length k1) := b3.cell 1
  have f21 := b2.frozen 1
  have f31 := b3.frozen 1
  have c12 : w3.cell? ⟨w.heap.size, 2, none⟩ = some v2 := b1.cell 2
  have c22 : w3.cell? ⟨w.heap.size + 1, 2, none⟩ = some (.slice none 0 0) := b2.cell 2
  have c32 : w3.cell? ⟨w.heap.size + 1 + 1, 2, none⟩ = some (.slice none 0 0) := b3.cell 2
  have f22 := b2.frozen 2
  have f32 := b3.frozen 2
  go_wp2_with fail
  refine bodyPost_ret (v := .agg #[.slice X0 a.length k0, .slice X1 b.length k1, .slice X2 c.length k2]) (by simp [results, Try.results11, go_sem, c30, c31, c32, c20, c21, c22]) rfl ⟨_, _, _, rfl, ?_, ?_, ?_, ?_⟩
  · refine SlR.more (lo := w.heap.size + 3) (hi := w3.heap.size) ?_ (by omega) (by simp [size_setCell])
    repeat' refine SlR.setCell ?_ _ _ (.inl (by simp; try omega))
    exact s0.more (by omega) (by omega)
  · refine SlR.more (lo := w.heap.size + 3) (hi := w3.heap.size) ?_ (by omega) (by simp [size_setCell])
    repeat' refine SlR.setCell ?_ _ _ (.inl (by simp; try omega))
    exact s1.more (by omega) (by omega)
  · refine SlR.more (lo := w.heap.size + 3) (hi := w3.heap.size) ?_ (by omega) (by simp [size_setCell])
    repeat' refine SlR.setCell ?_ _ _ (.inl (by simp; try omega))
    exact s2.more (by omega) (by omega)
  · repeat' refine Below.setCell ?_ (by simp; try omega) _
    exact hB3

theorem szPanel_u (v0 v1 v2 : Value) (a b c : List Int) (w : World) (h0 : SlI w 0 w.heap.size v0 a) (h1 : SlI w 0 w.heap.size v1 b) (h2 : SlI w 0 w.heap.size v2 c) :
    Calls Try.prog 9 #[.agg #[v0, v1, v2], .int .i64 1048576] w fun e w' => ∃ q : Int, e = .returned (.int .i64 q) ∧ (0 ≤ q → a.length + b.length + c.length ≤ 1048576) ∧ Below w.heap.size w w' := by
  have b1 := Blk.new w 24 #[v0, v1, v2]
  have hB : Below w.heap.size w (w.alloc (.cells #[v0, v1, v2] 24)) := (Below.refl _ _).alloc (Nat.le_refl _) _
  go_enter Try.func9, Try.ntmps9
  go_wp2_with fail
  generalize (w.alloc (.cells #[v0, v1, v2] 24)) = w1 at *
  have s0 := h0.below hB (Nat.le_refl _)
  have s1 := h1.below hB (Nat.le_refl _)
  have s2 := h2.below hB (Nat.le_refl _)
  have c1 : w1.cell? ⟨w.heap.size, 1, none⟩ = some v1 := b1.cell 1
  have c2 : w1.cell? ⟨w.heap.size, 2, none⟩ = some v2 := b1.cell 2
  refine (szInt64S_any v0 a 1048576 w1 s0 (by omega) (by omega)).mono ?_
  rintro e w' ⟨rfl, rfl⟩
  by_cases q0 : (1048576 : Int) - (a.length : Int) < 0
  · rw [if_pos q0]
    go_wp2_with fail
    go_ret
    exact ⟨-1, rfl, by omega, hB⟩
  · rw [if_neg q0]
    go_wp2_with fail
    refine (szInt64S_any v1 b (1048576 - (a.length : Int)) w1 s1 (by omega) (by omega)).mono ?_
    rintro e w' ⟨rfl, rfl⟩
    by_cases q1 : (1048576 : Int) - (a.length : Int) - (b.length : Int) < 0
    · rw [if_pos q1]
      go_wp2_with fail
      go_ret
      exact ⟨-1, rfl, by omega, hB⟩
    · rw [if_neg q1]
      go_wp2_with fail
      refine (szInt64S_any v2 c (1048576 - (a.length : Int) - (b.length : Int)) w1 s2 (by omega) (by omega)).mono ?_
      rintro e w' ⟨rfl, rfl⟩
      by_cases q2 : (1048576 : Int) - (a.length : Int) - (b.length : Int) - (c.length : Int) < 0
      · rw [if_pos q2]
        go_wp2_with fail
        go_ret
        exact ⟨-1, rfl, by omega, hB⟩
      · rw [if_neg q2]
        go_wp2_with fail
        go_ret
        exact ⟨_, rfl, fun _ => by omega, hB⟩

set_option maxHeartbeats 1000000 in
theorem eqPanel_same (u0 u1 u2 v0 v1 v2 : Value) (a b c : List Int) (w : World) (h0 : SlI w 0 w.heap.size u0 a) (h1 : SlI w 0 w.heap.size u1 b) (h2 : SlI w 0 w.heap.size u2 c) (g0 : SlI w 0 w.heap.size v0 a) (g1 : SlI w 0 w.heap.size v1 b) (g2 : SlI w 0 w.heap.size v2 c) :
    Calls Try.prog 13 #[.agg #[u0, u1, u2], .agg #[v0, v1, v2]] w fun e w' => e = .returned (.bool true) ∧ Below w.heap.size w w' := by
  go_enter Try.func13, Try.ntmps13
  go_wp2_with fail
  have b1 : Blk ((w.alloc (.cells #[u0, u1, u2] 27)).alloc (.cells #[v0, v1, v2] 27)) w.heap.size _ _ := (Blk.new w _ _).alloc _
  have b2 : Blk ((w.alloc (.cells #[u0, u1, u2] 27)).alloc (.cells #[v0, v1, v2] 27)) (w.heap.size + 1) _ _ := Blk.new' (by simp)
  have hB : Below w.heap.size w ((w.alloc (.cells #[u0, u1, u2] 27)).alloc (.cells #[v0, v1, v2] 27)) := ((Below.refl _ _).alloc (Nat.le_refl _) _).alloc (by simp) _
  generalize ((w.alloc (.cells #[u0, u1, u2] 27)).alloc (.cells #[v0, v1, v2] 27)) = W at *
  have z0 := hB.size
  have up : ∀ {v : Value} {l : Nat} {zs : List Int} {w1 : World}, SlI w l w.heap.size v zs → Below w.heap.size w w1 → SlI w1 l w1.heap.size v zs := fun h hb => (h.below hb (Nat.le_refl _)).more (Nat.le_refl _) hb.size
  refine (eqInt64S_any u0 v0 a a W _ _ (up h0 hB) (up g0 hB)).mono ?_
  rw [decide_eq_true (rfl : a = a)]
  rintro e w1 ⟨rfl, hb1⟩
  have hB1 := hB.trans (hb1.mono z0)
  have c01 : w1.cell? ⟨w.heap.size, 1, none⟩ = some u1 := (b1.below' hb1).cell 1
  have c11 : w1.cell? ⟨w.heap.size + 1, 1, none⟩ = some v1 := (b2.below' hb1).cell 1
  go_wp2_with fail
  refine (eqInt64S_any u1 v1 b b _ _ _ (up h1 hB1) (up g1 hB1)).mono ?_
  rw [decide_eq_true (rfl : b = b)]
  rintro e w2 ⟨rfl, hb2⟩
  have hB2 := hB1.trans (hb2.mono hB1.size)
  have c02 : w2.cell? ⟨w.heap.size, 2, none⟩ = some u2 := ((b1.below' hb1).below' hb2).cell 2
  have c12 : w2.cell? ⟨w.heap.size + 1, 2, none⟩ = some v2 := ((b2.below' hb1).below' hb2).cell 2
  go_wp2_with fail
  refine (eqInt64S_any u2 v2 c c _ _ _ (up h2 hB2) (up g2 hB2)).mono ?_
  rw [decide_eq_true (rfl : c = c)]
  rintro e w3 ⟨rfl, hb3⟩
  go_wp2_with fail
  go_ret
  exact ⟨rfl, hB2.trans (hb3.mono hB2.size)⟩

theorem cells_lawsPanel : Try.prog.cellsOf 24 = 3 := by kernel_rfl
set_option maxRecDepth 100000 in
theorem open_PanelV {H : Type} {enc : TypeId × Value → H} {w : World} {base : Nat} {v : Value} {d : DataW H} {p : List MemPlace} (hv : Value.okWide Try.prog w .any base 24 v) (h : DataW.Trod enc Try.prog w 0 (fun _ => true) true 24 v d p) :
    ∃ (v0 v1 v2 : Value) (q : N3), v = .agg #[v0, v1, v2] ∧ SlI w 0 w.heap.size v0 q.seats ∧ SlI w 0 w.heap.size v1 q.wait ∧ SlI w 0 w.heap.size v2 q.gone := by
  obtain ⟨cs, rfl, hsz⟩ := okWide_struct Try.underlying24 hv
  rw [cells_lawsPanel] at hsz
  obtain ⟨fuel, hf⟩ := h
  obtain ⟨m0, z0, v0, e0, g0⟩ := open_field Try.underlying24 hf 0 0 22 rfl rfl rfl cells_slI (by simp [Value.cells, hsz])
  obtain ⟨m1, z1, v1, e1, g1⟩ := open_field Try.underlying24 hf 1 1 22 rfl rfl rfl cells_slI (by simp [Value.cells, hsz])
  obtain ⟨m2, z2, v2, e2, g2⟩ := open_field Try.underlying24 hf 2 2 22 rfl rfl rfl cells_slI (by simp [Value.cells, hsz])
  obtain ⟨n0, h0, _⟩ := open_slI Try.underlying22 Try.underlying2 cells_i64 g0
  obtain ⟨n1, h1, _⟩ := open_slI Try.underlying22 Try.underlying2 cells_i64 g1
  obtain ⟨n2, h2, _⟩ := open_slI Try.underlying22 Try.underlying2 cells_i64 g2
  refine ⟨v0, v1, v2, ⟨n0, n1, n2⟩, ?_, h0, h1, h2⟩
  obtain ⟨l⟩ := cs
  match l, hsz with
  | [x0, x1, x2], _ =>
    simp [Value.cells] at e0 e1 e2
    subst e0 e1 e2
    rfl
end Go.Proofs.Ytkhojhgcopnenaa
