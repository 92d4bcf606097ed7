/- What the laws draw for ChanceOf. No condition. -/
import Derived.Test.YtfenedoalnieaaaDrawD
namespace Go.Proofs.Ytfenedoalnieaaa
open Go.RowKit
attribute [local go_sem ↓] Go.wp_at_zero Go.wp_at_succ

set_option maxRecDepth 100000 in
set_option maxHeartbeats 4000000 in
theorem DrawChanceOf_any (v : Value) (bs : List Int) (w : World) (h : SlR u8s 1 w 0 w.heap.size v bs) (hb : ∀ b ∈ bs, 0 ≤ b ∧ b ≤ 255) :
    Calls Try.prog 36 #[v] w fun e w' => ∃ vn vd p k, e = .returned (.tuple #[.agg #[vn, vd, .int .i64 (P3.st p)], .int .i64 k]) ∧ SlI w' w.heap.size w'.heap.size vn p.nums ∧ SlI w' w.heap.size w'.heap.size vd p.drawn ∧ p.nums.length ≤ 100 ∧ p.drawn.length ≤ 100 ∧ Below w.heap.size w w' := by
  go_enter Try.func36, Try.ntmps36
  go_wp2_with fail
  have bR := Blk.new w 27 #[.slice none 0 0, .slice none 0 0, .int .i64 0]
  have hB1 : Below w.heap.size w (w.alloc (.cells #[.slice none 0 0, .slice none 0 0, .int .i64 0] 27)) := (Below.refl _ _).alloc (Nat.le_refl _) _
  have hv1 := (h.below hB1 (Nat.le_refl _)).more (Nat.le_refl _) hB1.size
  generalize (w.alloc (.cells #[.slice none 0 0, .slice none 0 0, .int .i64 0] 27)) = w1 at *
  have z1 := hB1.size
  have lR := bR.lt
  refine (l01From_any v bs w1 hv1 hb).mono ?_
  rintro e w2 ⟨rfl, h2, hb2⟩
  have bR := bR.below' hb2
  have hB2 := hB1.trans (hb2.mono z1)
  have hv2 := (hv1.below hb2 (Nat.le_refl _)).more (Nat.le_refl _) hb2.size
  have z2 := hb2.size
  generalize hg : w1.heap.size = g at *
  go_wp2_with fail
  refine (DrawTakeFrom_any v bs w2 hv2 hb).mono ?_
  rintro e w3 ⟨vn, vd, p, k, rfl, rn, rd, hl1, hl2, hb3⟩
  obtain ⟨Xn, kn, rfl, _, _⟩ := rn.form
  obtain ⟨Xd, kd, rfl, _, _⟩ := rd.form
  have bR := bR.below' hb3
  have h3 := h2.below' hb3
  have hB3 := hB2.trans (hb3.mono hB2.size)
  have z3 := hb3.size
  have lg2 := h2.lt
  go_wp2_with fail
  have bP := Blk.new w3 27 #[.slice Xn p.nums.length kn, .slice Xd p.drawn.length kd, .int .i64 p.st]
  have bR := bR.alloc (.cells #[.slice Xn p.nums.length kn, .slice Xd p.drawn.length kd, .int .i64 p.st] 27)
  have h4 := h3.alloc (.cells #[.slice Xn p.nums.length kn, .slice Xd p.drawn.length kd, .int .i64 p.st] 27)
  have hB4 := hB3.alloc hB3.size (.cells #[.slice Xn p.nums.length kn, .slice Xd p.drawn.length kd, .int .i64 p.st] 27)
  have rn := rn.alloc (Nat.le_refl _) (.cells #[.slice Xn p.nums.length kn, .slice Xd p.drawn.length kd, .int .i64 p.st] 27)
  have rd := rd.alloc (Nat.le_refl _) (.cells #[.slice Xn p.nums.length kn, .slice Xd p.drawn.length kd, .int .i64 p.st] 27)
  have hz4 : (w3.alloc (.cells #[.slice Xn p.nums.length kn, .slice Xd p.drawn.length kd, .int .i64 p.st] 27)).heap.size = w3.heap.size + 1 := by simp
  have lgP : g < w3.heap.size := h3.lt
  generalize (w3.alloc (.cells #[.slice Xn p.nums.length kn, .slice Xd p.drawn.length kd, .int .i64 p.st] 27)) = w4 at *
  have hz4' : w3.heap.size < w4.heap.size := by omega
  clear hz4
  have nPR : w3.heap.size ≠ w.heap.size := by omega
  have bP4 : Blk w4.drew w3.heap.size 27 #[.slice Xn p.nums.length kn, .slice Xd p.drawn.length kd, .int .i64 p.st] := bP
  have bR4 : Blk w4.drew w.heap.size 27 #[.slice none 0 0, .slice none 0 0, .int .i64 0] := bR
  have bPa : Blk (w4.alloc (.cells #[.int .i64 k, .int .i64 k, .int .i64 k, .int .i64 60, .int .i64 61] 2)).drew w3.heap.size 27 #[.slice Xn p.nums.length kn, .slice Xd p.drawn.length kd, .int .i64 p.st] := bP.alloc _
  have bRa : Blk (w4.alloc (.cells #[.int .i64 k, .int .i64 k, .int .i64 k, .int .i64 60, .int .i64 61] 2)).drew w.heap.size 27 #[.slice none 0 0, .slice none 0 0, .int .i64 0] := bR.alloc _
  have ha4 := (h4.alloc (.cells #[.int .i64 k, .int .i64 k, .int .i64 k, .int .i64 60, .int .i64 61] 2)).drew
  have rn4 := rn.drew
  have rd4 := rd.drew
  have hB5 := hB4.drew
  have ngR : some w.heap.size ≠ some g := by intro e; have := Option.some.inj e; omega
  have hzd : w4.drew.heap.size = w4.heap.size := rfl
  have hza : (w4.alloc (.cells #[.int .i64 k, .int .i64 k, .int .i64 k, .int .i64 60, .int .i64 61] 2)).drew.heap.size = w4.heap.size + 1 := by show (w4.alloc _).heap.size = _; simp
  have sL : SlI (w4.alloc (.cells #[.int .i64 k, .int .i64 k, .int .i64 k, .int .i64 60, .int .i64 61] 2)).drew w4.heap.size (w4.heap.size + 1) (.slice (some ⟨w4.heap.size, 0, none⟩) 5 5) [k, k, k, 60, 61] := SlR.drew (laid_slI w4 2 #[.int .i64 k, .int .i64 k, .int .i64 k, .int .i64 60, .int .i64 61] [k, k, k, 60, 61] 5 rfl (by omega) rfl)
  have C1 := l01Pick_any g _ [k, k, k, 60, 61] _ _ _ ha4 sL (by omega) h4.lt (by simp)
  obtain ⟨d0, d1, d2⟩ := p3_cells bP
  try refine region_np ?_
  go_region_held3 (fun w' => w'.cell? ⟨w3.heap.size, 0, none⟩ = some (.slice Xn p.nums.length kn) ∧ w'.cell? ⟨w3.heap.size, 1, none⟩ = some (.slice Xd p.drawn.length kd) ∧ w'.cell? ⟨w3.heap.size, 2, none⟩ = some (.int .i64 p.st)) (first | exact ⟨d0, d1, d2⟩ | exact p3_cells bP4 | exact p3_cells bPa | exact p3_cells bP7 | exact p3_cells (set3_blk bP7 nPR _ _ _) | go_keep) (first
    | (go_at_call 67; (with_reducible refine C1.mono ?_); rintro e w7 ⟨r7, rfl, _, h7, g7⟩; have bP7 := bPa.grown g7 (ne_src lgP); have bR7 := bRa.grown g7 ngR; have c0 := bR7.cell 0; have c1 := bR7.cell 1; have c2 := bR7.cell 2; have f0 := bR7.frozen 0; have f1 := bR7.frozen 1; have f2 := bR7.frozen 2))
  have z7 := g7.size
  have rn7 := (rn.alloc (by omega) (.cells #[.int .i64 k, .int .i64 k, .int .i64 k, .int .i64 60, .int .i64 61] 2)).drew.grown g7 (by omega) (fun k hk => by have := Option.some.inj hk; omega)
  have rd7 := (rd.alloc (by omega) (.cells #[.int .i64 k, .int .i64 k, .int .i64 k, .int .i64 60, .int .i64 61] 2)).drew.grown g7 (by omega) (fun k hk => by have := Option.some.inj hk; omega)
  have hB7 := gr_to_below (hB4.alloc hB4.size (.cells #[.int .i64 k, .int .i64 k, .int .i64 k, .int .i64 60, .int .i64 61] 2)).drew g7 (by omega) (by omega)
  obtain ⟨c0, c1, c2'⟩ := p3_cells bR7
  have E := p3_store (p := p) (R := w.heap.size) rn7 rd7 hB7 (by omega) (by omega) (Nat.le_refl _) (by omega) (by omega)
  go_wp2_with fail
  exact bodyPost_ret (v := .tuple #[.agg #[.slice Xn p.nums.length kn, .slice Xd p.drawn.length kd, .int .i64 p.st], .int .i64 r7]) (by simp [results, Try.results36, go_sem, c0, c1, c2']) rfl ⟨_, _, p, r7, rfl, (E _ _ _).1, (E _ _ _).2.1, hl1, hl2, (E _ _ _).2.2⟩
end Go.Proofs.Ytfenedoalnieaaa
