/- A term that the laws draw. No condition. -/
import Derived.Test.YtiflpihjffhfhaaTermE
import Derived.Test.YtiflpihjffhfhaaDrawM
namespace Go.Proofs.Ytiflpihjffhfhaa
open Go.RowKit
attribute [local go_sem ↓] Go.wp_at_zero Go.wp_at_succ

set_option maxRecDepth 100000 in
set_option maxHeartbeats 4000000 in
theorem l07Good_any (g : Nat) (w : World) (h : Src w g) :
    Calls Try.prog 166 #[.pointer (some ⟨g, 0, none⟩)] w fun e w' => ∃ q0 q1 q2 : Int, e = .returned (.agg #[.int .i64 q0, .int .i64 q1, .int .i64 q2]) ∧ Src w' g ∧ w.grownBy w' (some g) := by
  have lg := h.lt
  go_enter Try.func166, Try.ntmps166
  go_wp2_with fail
  have bR := Blk.new w 65 #[.int .i64 0, .int .i64 0, .int .i64 0]
  replace h := h.alloc (.cells #[.int .i64 0, .int .i64 0, .int .i64 0] 65)
  have G := gr_alloc (World.grownBy.refl w (some g)) (.cells #[.int .i64 0, .int .i64 0, .int .i64 0] 65)
  generalize (w.alloc (.cells #[.int .i64 0, .int .i64 0, .int .i64 0] 65)) = w0 at *
  refine (l01Next_any g 4 w0 h).mono ?_
  clear h
  rintro e w1 ⟨r1, rfl, a1, b1, _, h, g1⟩
  replace b1 := b1 (by omega)
  have z1 := g1.size
  replace bR := bR.gr g1 lg
  replace G := grownBy_trans G g1
  clear g1
  go_wp2_with fail
  refine (l01Next_any g 60 w1 h).mono ?_
  clear h
  rintro e w2 ⟨r2, rfl, a2, b2, _, h, g2⟩
  replace b2 := b2 (by omega)
  have z2 := g2.size
  replace bR := bR.gr g2 lg
  replace G := grownBy_trans G g2
  clear g2
  go_wp2_with fail
  refine (l01Next_any g 1500 w2 h).mono ?_
  clear h
  rintro e w3 ⟨r3, rfl, a3, b3, _, h, g3⟩
  replace b3 := b3 (by omega)
  have z3 := g3.size
  replace bR := bR.gr g3 lg
  replace G := grownBy_trans G g3
  clear g3
  go_wp2_with fail
  refine (pick_any g 2 [_, _] _ w3 h rfl (by decide) (by decide) (by rfl)).mono ?_
  clear h
  rintro e w4 ⟨r4, rfl, m4, h, g4⟩
  have c4 : 0 ≤ r4 ∧ r4 ≤ 1500 := by simp at m4; omega
  clear m4
  have z4 := g4.size
  replace bR := bR.gr g4 lg
  replace G := grownBy_trans G g4
  clear g4
  go_wp2_with fail
  have bT := Blk.new w4 65 #[.int .i64 (1 + r1), .int .i64 (100 + r4), .int .i64 0]
  have lbT : g < w4.heap.size := h.lt
  have nbTbR := bR.lt
  replace bR := bR.alloc (.cells #[.int .i64 (1 + r1), .int .i64 (100 + r4), .int .i64 0] 65)
  replace h := h.alloc (.cells #[.int .i64 (1 + r1), .int .i64 (100 + r4), .int .i64 0] 65)
  replace G := gr_alloc G (.cells #[.int .i64 (1 + r1), .int .i64 (100 + r4), .int .i64 0] 65)
  have z5 : (w4.alloc (.cells #[.int .i64 (1 + r1), .int .i64 (100 + r4), .int .i64 0] 65)).heap.size = w4.heap.size + 1 := by simp
  generalize (w4.alloc (.cells #[.int .i64 (1 + r1), .int .i64 (100 + r4), .int .i64 0] 65)) = w5 at *
  replace z5 : w4.heap.size < w5.heap.size := by omega
  have nRT : w.heap.size ≠ w4.heap.size := by omega
  have d1 : w5.cell? ⟨w4.heap.size, 1, none⟩ = some (.int .i64 (100 + r4)) := bT.cell 1
  have bTd : Blk w5.drew w4.heap.size 65 #[.int .i64 (1 + r1), .int .i64 (100 + r4), .int .i64 0] := bT
  have bRd : Blk w5.drew w.heap.size 65 #[.int .i64 0, .int .i64 0, .int .i64 0] := bR
  have C1 := l01Next_any g 10 w5.drew h.drew
  replace G := gr_draw G
  refine region_np ?_
  go_region_held3 (fun w' => w'.cell? ⟨w4.heap.size, 1, none⟩ = some (.int .i64 (100 + r4))) (first | exact d1 | exact bTd.cell 1 | exact bT7.cell 1 | exact bT8.cell 1 | exact (bT8.alloc _).cell 1 | exact bT9.cell 1 | exact (r3_set2 bT9 _).cell 1 | go_keep) (first
    | (go_at_call 93; (with_reducible refine C1.mono ?_); rintro e w7 ⟨r7, rfl, _, _, _, h7, g7⟩; have bT7 := bTd.gr g7 lbT)
    | (go_at_call 93; (with_reducible refine (l01Next_any g 50 w7 h7).mono ?_); rintro e w8 ⟨r8, rfl, _, _, _, h8, g8⟩; have bT8 := bT7.gr g8 lbT)
    | (go_at_call 92; (refine (pick_any g 3 [_, _, _] _ w8 h8 rfl (by decide) (by decide) (by rfl)).mono ?_); rintro e w9 ⟨r9, rfl, _, h9, g9⟩; have bT9 := bT8.gr g9 lbT; have ft := bT9.frozen 2; have qt := bT9.cell 2))
  clear d1 qt
  have bR9 := ((bRd.gr g7 lg).gr g8 lg).gr g9 lg
  obtain ⟨q0, q1, q2⟩ := r3_cells bT9
  obtain ⟨c0, c1, c2⟩ := r3_cells bR9
  obtain ⟨f0, f1, f2⟩ := r3_open bR9
  replace G := grownBy_trans (grownBy_trans (grownBy_trans G g7) g8) g9
  have z7 := g7.size
  have z8 := g8.size
  have z9 := g9.size
  go_wp2_with fail
  exact bodyPost_ret (v := .agg #[.int .i64 (1 + r1), .int .i64 (100 + r4), .int .i64 (wrap64 (100 + r4 + r9))]) (by simp [results, Try.results166, go_sem, c0, c1, c2, nRT]) rfl ⟨_, _, _, rfl, s3_src (h9.setCell (p := ⟨w4.heap.size, 2, none⟩) lbT _) lg _ _ _, s3_gr (gr_set G (p := ⟨w4.heap.size, 2, none⟩) (by show w.heap.size ≤ w4.heap.size; omega) _) (Nat.le_refl _) _ _ _⟩

set_option maxRecDepth 100000 in
set_option maxHeartbeats 4000000 in
theorem l07Draw_any (g : Nat) (w : World) (h : Src w g) :
    Calls Try.prog 144 #[.pointer (some ⟨g, 0, none⟩)] w fun e w' => ∃ q0 q1 q2 : Int, e = .returned (.agg #[.int .i64 q0, .int .i64 q1, .int .i64 q2]) ∧ Src w' g ∧ w.grownBy w' (some g) := by
  have lg := h.lt
  go_enter Try.func144, Try.ntmps144
  go_wp2_with fail
  have bR := Blk.new w 65 #[.int .i64 0, .int .i64 0, .int .i64 0]
  replace h := h.alloc (.cells #[.int .i64 0, .int .i64 0, .int .i64 0] 65)
  have G := gr_alloc (World.grownBy.refl w (some g)) (.cells #[.int .i64 0, .int .i64 0, .int .i64 0] 65)
  generalize (w.alloc (.cells #[.int .i64 0, .int .i64 0, .int .i64 0] 65)) = w0 at *
  refine (l07Good_any g w0 h).mono ?_
  clear h
  rintro e w1 ⟨q0, q1, q2, rfl, h, g1⟩
  have z1 := g1.size
  replace bR := bR.gr g1 lg
  replace G := grownBy_trans G g1
  clear g1
  go_wp2_with fail
  have bT := Blk.new w1 65 #[.int .i64 q0, .int .i64 q1, .int .i64 q2]
  have lbT : g < w1.heap.size := h.lt
  have nbTbR := bR.lt
  replace bR := bR.alloc (.cells #[.int .i64 q0, .int .i64 q1, .int .i64 q2] 65)
  replace h := h.alloc (.cells #[.int .i64 q0, .int .i64 q1, .int .i64 q2] 65)
  replace G := gr_alloc G (.cells #[.int .i64 q0, .int .i64 q1, .int .i64 q2] 65)
  have z2 : (w1.alloc (.cells #[.int .i64 q0, .int .i64 q1, .int .i64 q2] 65)).heap.size = w1.heap.size + 1 := by simp
  generalize (w1.alloc (.cells #[.int .i64 q0, .int .i64 q1, .int .i64 q2] 65)) = w2 at *
  replace z2 : w1.heap.size < w2.heap.size := by omega
  have nRT : w.heap.size ≠ w1.heap.size := by omega
  refine (l01Next_any g 24 w2 h).mono ?_
  clear h
  rintro e w3 ⟨r3, rfl, a3, b3, _, h, g3⟩
  replace b3 := b3 (by omega)
  have z3 := g3.size
  replace bR := bR.gr g3 lg
  replace bT := bT.gr g3 lbT
  replace G := grownBy_trans G g3
  clear g3
  by_cases e0 : r3 = 0
  · subst e0
    obtain ⟨x0, x1, x2⟩ := r3_cells bT
    go_wp2_with fail
    clear x0 x1 x2
    refine (pick_any g 3 [_, _, _] _ w3 h rfl (by decide) (by decide) (by rfl)).mono ?_
    clear h
    rintro e w4 ⟨r4, rfl, m4, h, g4⟩
    clear m4
    have z4 := g4.size
    replace bR := bR.gr g4 lg
    replace bT := bT.gr g4 lbT
    replace G := grownBy_trans G g4
    clear g4
    obtain ⟨c0, c1, c2⟩ := r3_cells bR
    obtain ⟨f0, f1, f2⟩ := r3_open bR
    obtain ⟨x0, x1, x2⟩ := r3_cells bT
    obtain ⟨y0, y1, y2⟩ := r3_open bT
    go_wp2_with fail
    exact bodyPost_ret (v := .agg #[.int .i64 q0, .int .i64 q1, .int .i64 r4]) (by simp [results, Try.results144, go_sem, c0, c1, c2, nRT]) rfl ⟨_, _, _, rfl, s3_src (h.setCell (p := ⟨w1.heap.size, 2, none⟩) lbT _) lg _ _ _, s3_gr (gr_set G (p := ⟨w1.heap.size, 2, none⟩) (by show w.heap.size ≤ w1.heap.size; omega) _) (Nat.le_refl _) _ _ _⟩
  replace e0 : (r3 == 0) = false := by simpa using e0
  by_cases e1 : r3 = 1
  · subst e1
    go_wp2_with fail
    refine (pick_any g 3 [_, _, _] _ w3 h rfl (by decide) (by decide) (by rfl)).mono ?_
    clear h
    rintro e w4 ⟨r4, rfl, m4, h, g4⟩
    clear m4
    have z4 := g4.size
    replace bR := bR.gr g4 lg
    replace bT := bT.gr g4 lbT
    replace G := grownBy_trans G g4
    clear g4
    obtain ⟨c0, c1, c2⟩ := r3_cells bR
    obtain ⟨f0, f1, f2⟩ := r3_open bR
    obtain ⟨x0, x1, x2⟩ := r3_cells bT
    obtain ⟨y0, y1, y2⟩ := r3_open bT
    go_wp2_with fail
    exact bodyPost_ret (v := .agg #[.int .i64 r4, .int .i64 q1, .int .i64 q2]) (by simp [results, Try.results144, go_sem, c0, c1, c2, nRT]) rfl ⟨_, _, _, rfl, s3_src (h.setCell (p := ⟨w1.heap.size, 0, none⟩) lbT _) lg _ _ _, s3_gr (gr_set G (p := ⟨w1.heap.size, 0, none⟩) (by show w.heap.size ≤ w1.heap.size; omega) _) (Nat.le_refl _) _ _ _⟩
  replace e1 : (r3 == 1) = false := by simpa using e1
  obtain ⟨c0, c1, c2⟩ := r3_cells bR
  obtain ⟨f0, f1, f2⟩ := r3_open bR
  obtain ⟨x0, x1, x2⟩ := r3_cells bT
  obtain ⟨y0, y1, y2⟩ := r3_open bT
  go_wp2_with fail
  exact bodyPost_ret (v := .agg #[.int .i64 q0, .int .i64 q1, .int .i64 q2]) (by simp [results, Try.results144, go_sem, c0, c1, c2, nRT]) rfl ⟨_, _, _, rfl, s3_src h lg _ _ _, s3_gr G (Nat.le_refl _) _ _ _⟩

end Go.Proofs.Ytiflpihjffhfhaa
