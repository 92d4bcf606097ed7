/- What the laws draw for LeftOf, TakeFrom, ChanceOf. No condition. -/
import Derived.Test.YtfenedoalnieaaaDrawC
namespace Go.Proofs.Ytfenedoalnieaaa
open Go.RowKit
attribute [local go_sem ↓] Go.wp_at_zero Go.wp_at_succ

theorem p3_store {w W : World} {R lo hi lo' hi' : Nat} {vn vd : Value} {p : P3} (hn : SlI W lo hi vn p.nums) (hd : SlI W lo' hi' vd p.drawn) (hB : Below w.heap.size w W) (hR : R < lo) (hR' : R < lo') (hw : w.heap.size ≤ R) (h1 : hi ≤ W.heap.size) (h2 : hi' ≤ W.heap.size) (a b c : Value) :
    SlI (((W.setCell ⟨R, 0, none⟩ a).setCell ⟨R, 1, none⟩ b).setCell ⟨R, 2, none⟩ c) w.heap.size (((W.setCell ⟨R, 0, none⟩ a).setCell ⟨R, 1, none⟩ b).setCell ⟨R, 2, none⟩ c).heap.size vn p.nums ∧ SlI (((W.setCell ⟨R, 0, none⟩ a).setCell ⟨R, 1, none⟩ b).setCell ⟨R, 2, none⟩ c) w.heap.size (((W.setCell ⟨R, 0, none⟩ a).setCell ⟨R, 1, none⟩ b).setCell ⟨R, 2, none⟩ c).heap.size vd p.drawn ∧ Below w.heap.size w (((W.setCell ⟨R, 0, none⟩ a).setCell ⟨R, 1, none⟩ b).setCell ⟨R, 2, none⟩ c) := by
  refine ⟨(set3_sl hn (.inl hR) a b c).more (by omega) (by rw [set3_size]; exact h1), (set3_sl hd (.inl hR') a b c).more (by omega) (by rw [set3_size]; exact h2), ?_⟩
  exact Below.setCell (Below.setCell (Below.setCell hB hw a) hw b) hw c

set_option maxRecDepth 100000 in
set_option maxHeartbeats 4000000 in
theorem DrawLeftOf_any (v : Value) (bs : List Int) (w : World) (h : SlR u8s 1 w 0 w.heap.size v bs) (hb : ∀ b ∈ bs, 0 ≤ b ∧ b ≤ 255) :
    Calls Try.prog 37 #[v] w fun e w' => ∃ vn vd p, e = .returned (.agg #[vn, vd, .int .i64 (P3.st p)]) ∧ SlI w' w.heap.size w'.heap.size vn p.nums ∧ SlI w' w.heap.size w'.heap.size vd p.drawn ∧ p.nums.length ≤ 100 ∧ p.drawn.length ≤ 100 ∧ Below w.heap.size w w' := by
  go_enter Try.func37, Try.ntmps37
  go_wp2_with fail
  have bR := Blk.new w 27 #[.slice none 0 0, .slice none 0 0, .int .i64 0]
  have hB1 : Below w.heap.size w (w.alloc (.cells #[.slice none 0 0, .slice none 0 0, .int .i64 0] 27)) := (Below.refl _ _).alloc (Nat.le_refl _) _
  have hv1 := (h.below hB1 (Nat.le_refl _)).more (Nat.le_refl _) hB1.size
  generalize (w.alloc (.cells #[.slice none 0 0, .slice none 0 0, .int .i64 0] 27)) = w1 at *
  have z1 := hB1.size
  have lR := bR.lt
  refine (l01From_any v bs w1 hv1 hb).mono ?_
  rintro e w2 ⟨rfl, h2, hb2⟩
  have bR := bR.below' hb2
  have hB2 := hB1.trans (hb2.mono z1)
  have z2 := hb2.size
  go_wp2_with fail
  refine (l08Pool_any w1.heap.size w2 h2).mono ?_
  rintro e w3 ⟨vn, vd, p, rfl, rn, rd, hl1, hl2, _, h3, g3⟩
  obtain ⟨Xn, kn, rfl, _, _⟩ := rn.form
  obtain ⟨Xd, kd, rfl, _, _⟩ := rd.form
  have bR := bR.grown g3 (by intro e; have := Option.some.inj e; omega)
  have hB3 := gr_to_below hB2 g3 (by omega) (by omega)
  obtain ⟨c0, c1, c2'⟩ := p3_cells bR
  obtain ⟨f0, f1, f2⟩ := p3_open bR
  have E := p3_store (p := p) (R := w.heap.size) rn rd hB3 (by omega) (by omega) (Nat.le_refl _) (Nat.le_refl _) (Nat.le_refl _)
  go_wp2_with fail
  exact bodyPost_ret (v := .agg #[.slice Xn p.nums.length kn, .slice Xd p.drawn.length kd, .int .i64 p.st]) (by simp [results, Try.results37, go_sem, c0, c1, c2']) rfl ⟨_, _, p, rfl, (E _ _ _).1, (E _ _ _).2.1, hl1, hl2, (E _ _ _).2.2⟩

set_option maxRecDepth 100000 in
set_option maxHeartbeats 4000000 in
theorem DrawTakeFrom_any (v : Value) (bs : List Int) (w : World) (h : SlR u8s 1 w 0 w.heap.size v bs) (hb : ∀ b ∈ bs, 0 ≤ b ∧ b ≤ 255) :
    Calls Try.prog 39 #[v] w fun e w' => ∃ vn vd p k, e = .returned (.tuple #[.agg #[vn, vd, .int .i64 (P3.st p)], .int .i64 k]) ∧ SlI w' w.heap.size w'.heap.size vn p.nums ∧ SlI w' w.heap.size w'.heap.size vd p.drawn ∧ p.nums.length ≤ 100 ∧ p.drawn.length ≤ 100 ∧ Below w.heap.size w w' := by
  go_enter Try.func39, Try.ntmps39
  go_wp2_with fail
  have bR := Blk.new w 27 #[.slice none 0 0, .slice none 0 0, .int .i64 0]
  have hB1 : Below w.heap.size w (w.alloc (.cells #[.slice none 0 0, .slice none 0 0, .int .i64 0] 27)) := (Below.refl _ _).alloc (Nat.le_refl _) _
  have hv1 := (h.below hB1 (Nat.le_refl _)).more (Nat.le_refl _) hB1.size
  generalize (w.alloc (.cells #[.slice none 0 0, .slice none 0 0, .int .i64 0] 27)) = w1 at *
  have z1 := hB1.size
  have lR := bR.lt
  refine (l01From_any v bs w1 hv1 hb).mono ?_
  rintro e w2 ⟨rfl, h2, hb2⟩
  have bR := bR.below' hb2
  have hB2 := hB1.trans (hb2.mono z1)
  have z2 := hb2.size
  generalize hg : w1.heap.size = g at *
  go_wp2_with fail
  refine (l08Pool_any g w2 h2).mono ?_
  rintro e w3 ⟨vn, vd, p, rfl, rn, rd, hl1, hl2, _, h3, g3⟩
  obtain ⟨Xn, kn, rfl, _, _⟩ := rn.form
  obtain ⟨Xd, kd, rfl, _, _⟩ := rd.form
  have bR := bR.grown g3 (by intro e; have := Option.some.inj e; omega)
  have hB3 := gr_to_below hB2 g3 (by omega) (by omega)
  have z3 := g3.size
  go_wp2_with fail
  have bP := Blk.new w3 27 #[.slice Xn p.nums.length kn, .slice Xd p.drawn.length kd, .int .i64 p.st]
  have bR := bR.alloc (.cells #[.slice Xn p.nums.length kn, .slice Xd p.drawn.length kd, .int .i64 p.st] 27)
  have h4 := h3.alloc (.cells #[.slice Xn p.nums.length kn, .slice Xd p.drawn.length kd, .int .i64 p.st] 27)
  have hB4 := hB3.alloc hB3.size (.cells #[.slice Xn p.nums.length kn, .slice Xd p.drawn.length kd, .int .i64 p.st] 27)
  have rn := rn.alloc (Nat.le_refl _) (.cells #[.slice Xn p.nums.length kn, .slice Xd p.drawn.length kd, .int .i64 p.st] 27)
  have rd := rd.alloc (Nat.le_refl _) (.cells #[.slice Xn p.nums.length kn, .slice Xd p.drawn.length kd, .int .i64 p.st] 27)
  have hz4 : (w3.alloc (.cells #[.slice Xn p.nums.length kn, .slice Xd p.drawn.length kd, .int .i64 p.st] 27)).heap.size = w3.heap.size + 1 := by simp
  have lgP : g < w3.heap.size := h3.lt
  generalize (w3.alloc (.cells #[.slice Xn p.nums.length kn, .slice Xd p.drawn.length kd, .int .i64 p.st] 27)) = w4 at *
  have nPR : w3.heap.size ≠ w.heap.size := by omega
  have bP4 : Blk w4.drew w3.heap.size 27 #[.slice Xn p.nums.length kn, .slice Xd p.drawn.length kd, .int .i64 p.st] := bP
  have bR4 : Blk w4.drew w.heap.size 27 #[.slice none 0 0, .slice none 0 0, .int .i64 0] := bR
  have rn4 := rn.drew
  have rd4 := rd.drew
  have hB5 := hB4.drew
  have ngR : some w.heap.size ≠ some g := by intro e; have := Option.some.inj e; omega
  have hzd : w4.drew.heap.size = w4.heap.size := rfl
  have C1 := l01Next_any g 4 w4.drew h4.drew
  obtain ⟨d0, d1, d2⟩ := p3_cells bP
  try refine region_np ?_
  go_region_held3 (fun w' => w'.cell? ⟨w3.heap.size, 0, none⟩ = some (.slice Xn p.nums.length kn) ∧ w'.cell? ⟨w3.heap.size, 1, none⟩ = some (.slice Xd p.drawn.length kd) ∧ w'.cell? ⟨w3.heap.size, 2, none⟩ = some (.int .i64 p.st)) (first | exact ⟨d0, d1, d2⟩ | exact p3_cells bP4 | exact p3_cells bP5 | exact p3_cells bP6 | exact p3_cells (bP6.alloc _) | exact p3_cells bP7 | exact p3_cells (set3_blk bP7 nPR _ _ _) | go_keep) (first
    | (go_at_call 69; (with_reducible refine C1.mono ?_); rintro e w5 ⟨r5, rfl, _, _, _, h5, g5⟩; have bP5 := bP4.grown g5 (ne_src lgP))
    | (go_at_call 69; (with_reducible refine (l01Next_any g 6 w5 h5).mono ?_); rintro e w6 ⟨r6, rfl, _, _, _, h6, g6⟩; have bP6 := bP5.grown g6 (ne_src lgP))
    | (go_at_call 67; (refine (l01Pick_any g _ [_, _, _, _, _, _] _ _ _ (h6.alloc _) (laid_slI w6 _ _ _ 6 (by rfl) (by simp) (by rfl)) (by simp) h6.lt (by simp)).mono ?_); rintro e w7 ⟨r7, rfl, _, h7, g7⟩; have bP7 := (bP6.alloc _).grown g7 (ne_src lgP); have bR7 := (((bR4.grown g5 ngR).grown g6 ngR).alloc _).grown g7 ngR; have c0 := bR7.cell 0; have c1 := bR7.cell 1; have c2 := bR7.cell 2; have f0 := bR7.frozen 0; have f1 := bR7.frozen 1; have f2 := bR7.frozen 2))
  have lg2 := h2.lt
  have z5 := g5.size
  have z6 := g6.size
  have z7 := g7.size
  have hg6 := grownBy_trans g5 g6
  have hg7 := grownBy_trans (gr_alloc hg6 _) g7
  have rn7 := rn4.grown hg7 (by omega) (fun k hk => by have := Option.some.inj hk; omega)
  have rd7 := rd4.grown hg7 (by omega) (fun k hk => by have := Option.some.inj hk; omega)
  have hB7 := gr_to_below hB5 hg7 (by omega) (by omega)
  have zz7 := hg7.size
  obtain ⟨c0, c1, c2'⟩ := p3_cells bR7
  have E := p3_store (p := p) (R := w.heap.size) rn7 rd7 hB7 (by omega) (by omega) (Nat.le_refl _) (by omega) (by omega)
  go_wp2_with fail
  exact bodyPost_ret (v := .tuple #[.agg #[.slice Xn p.nums.length kn, .slice Xd p.drawn.length kd, .int .i64 p.st], .int .i64 r7]) (by simp [results, Try.results39, go_sem, c0, c1, c2']) rfl ⟨_, _, p, r7, rfl, (E _ _ _).1, (E _ _ _).2.1, hl1, hl2, (E _ _ _).2.2⟩
end Go.Proofs.Ytfenedoalnieaaa
