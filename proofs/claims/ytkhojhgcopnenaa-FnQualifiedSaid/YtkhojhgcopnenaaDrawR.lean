/- Rules that the laws draw. No condition. -/
import Derived.Test.YtkhojhgcopnenaaDrawO
namespace Go.Proofs.Ytkhojhgcopnenaa
open Go.RowKit
attribute [local go_sem ↓] Go.wp_at_zero Go.wp_at_succ

theorem rl_gr {W W' : World} {R g B : Nat} {v : Value} {xs : List Int} (h : SlI W (R + 1) B v xs) (hB : B ≤ W.heap.size) (hg : W.grownBy W' (some g)) (hR : g < R) : SlI W' (R + 1) B v xs :=
  h.grown hg hB (fun k hk => by have := Option.some.inj hk; omega)
theorem rl_set {W : World} {R B : Nat} {v : Value} {xs : List Int} (h : SlI W (R + 1) B v xs) (i : Nat) (u : Value) : SlI (W.setCell ⟨B, i, none⟩ u) (R + 1) B v xs :=
  h.setCell ⟨B, i, none⟩ u (.inr (Nat.le_refl _))
theorem rl_up {W : World} {R B : Nat} {v : Value} {xs : List Int} (h : SlI W (R + 1) B v xs) (hB : B ≤ W.heap.size) : SlI W (R + 1) W.heap.size v xs := h.more (Nat.le_refl _) hB
theorem rl_al {W : World} {lo hi : Nat} {v : Value} {xs : List Int} (h : SlI W lo hi v xs) (hB : hi ≤ W.heap.size) (o : Obj) : SlI (W.alloc o) lo hi v xs := h.alloc hB o
theorem rl_endZ {w W : World} {R g N B : Nat} (yr lo hi : Int) (cs : Array Value) (new : List Int) (n : Nat) (hn : new.length = n) (hm : n ≤ 100) (hc : cs.toList = new.flatMap i64s) (hN : W.heap.size = N) {v : Value} {old : List Int} (so : SlI W (R + 1) B v old) (hB : B ≤ W.heap.size) (ho : old.length ≤ 100) (hs : Src W g) (hg : w.grownBy W (some g)) (hgR : g < R) (hw : w.heap.size ≤ R) (hRN : R < N) (y0 y1 y2 y3 y4 : Value) :
    ∃ (vz' vj' : Value) (r : R5), Ending.returned (.agg #[.int .i64 yr, .int .i64 lo, .int .i64 hi, .slice (some ⟨N, 0, none⟩) n n, v]) = .returned (.agg #[.int .i64 r.yr, .int .i64 r.lo, .int .i64 r.hi, vz', vj']) ∧ SlI ((((((W.setCell ⟨R, 0, none⟩ y0).setCell ⟨R, 1, none⟩ y1).setCell ⟨R, 2, none⟩ y2).setCell ⟨R, 3, none⟩ y3).setCell ⟨R, 4, none⟩ y4).alloc (.cells cs 2)) w.heap.size ((((((W.setCell ⟨R, 0, none⟩ y0).setCell ⟨R, 1, none⟩ y1).setCell ⟨R, 2, none⟩ y2).setCell ⟨R, 3, none⟩ y3).setCell ⟨R, 4, none⟩ y4).alloc (.cells cs 2)).heap.size vz' r.zones ∧ SlI ((((((W.setCell ⟨R, 0, none⟩ y0).setCell ⟨R, 1, none⟩ y1).setCell ⟨R, 2, none⟩ y2).setCell ⟨R, 3, none⟩ y3).setCell ⟨R, 4, none⟩ y4).alloc (.cells cs 2)) w.heap.size ((((((W.setCell ⟨R, 0, none⟩ y0).setCell ⟨R, 1, none⟩ y1).setCell ⟨R, 2, none⟩ y2).setCell ⟨R, 3, none⟩ y3).setCell ⟨R, 4, none⟩ y4).alloc (.cells cs 2)).heap.size vj' r.jobs ∧ r.zones.length ≤ 100 ∧ r.jobs.length ≤ 100 ∧ Src ((((((W.setCell ⟨R, 0, none⟩ y0).setCell ⟨R, 1, none⟩ y1).setCell ⟨R, 2, none⟩ y2).setCell ⟨R, 3, none⟩ y3).setCell ⟨R, 4, none⟩ y4).alloc (.cells cs 2)) g ∧ w.grownBy ((((((W.setCell ⟨R, 0, none⟩ y0).setCell ⟨R, 1, none⟩ y1).setCell ⟨R, 2, none⟩ y2).setCell ⟨R, 3, none⟩ y3).setCell ⟨R, 4, none⟩ y4).alloc (.cells cs 2)) (some g) := by
  have z5 : (((((W.setCell ⟨R, 0, none⟩ y0).setCell ⟨R, 1, none⟩ y1).setCell ⟨R, 2, none⟩ y2).setCell ⟨R, 3, none⟩ y3).setCell ⟨R, 4, none⟩ y4).heap.size = W.heap.size := by rw [size_setCell, size_setCell, size_setCell, size_setCell, size_setCell]
  have kN := laid_slI (((((W.setCell ⟨R, 0, none⟩ y0).setCell ⟨R, 1, none⟩ y1).setCell ⟨R, 2, none⟩ y2).setCell ⟨R, 3, none⟩ y3).setCell ⟨R, 4, none⟩ y4) 2 cs new n hn (by omega) hc
  have zA : ((((((W.setCell ⟨R, 0, none⟩ y0).setCell ⟨R, 1, none⟩ y1).setCell ⟨R, 2, none⟩ y2).setCell ⟨R, 3, none⟩ y3).setCell ⟨R, 4, none⟩ y4).alloc (.cells cs 2)).heap.size = (((((W.setCell ⟨R, 0, none⟩ y0).setCell ⟨R, 1, none⟩ y1).setCell ⟨R, 2, none⟩ y2).setCell ⟨R, 3, none⟩ y3).setCell ⟨R, 4, none⟩ y4).heap.size + 1 := by simp
  rw [z5, hN] at kN
  have kN := kN.more (lo' := w.heap.size) (hi' := ((((((W.setCell ⟨R, 0, none⟩ y0).setCell ⟨R, 1, none⟩ y1).setCell ⟨R, 2, none⟩ y2).setCell ⟨R, 3, none⟩ y3).setCell ⟨R, 4, none⟩ y4).alloc (.cells cs 2)).heap.size) (by omega) (by omega)
  have kO := ((so.keep fun C hC _ => dn_other (W := W) (R := R) y0 y1 y2 y3 y4 (by omega)).alloc (by omega) (.cells cs 2)).more (lo' := w.heap.size) (hi' := ((((((W.setCell ⟨R, 0, none⟩ y0).setCell ⟨R, 1, none⟩ y1).setCell ⟨R, 2, none⟩ y2).setCell ⟨R, 3, none⟩ y3).setCell ⟨R, 4, none⟩ y4).alloc (.cells cs 2)).heap.size) (by omega) (by omega)
  exact ⟨_, _, ⟨yr, lo, hi, new, old⟩, rfl, kN, kO, by dsimp only; omega, ho, (dn_src hs hgR y0 y1 y2 y3 y4).alloc _, gr_alloc (dn_gr hg hw y0 y1 y2 y3 y4) _⟩
theorem rl_endJ {w W : World} {R g N B : Nat} (yr lo hi : Int) (cs : Array Value) (new : List Int) (n : Nat) (hn : new.length = n) (hm : n ≤ 100) (hc : cs.toList = new.flatMap i64s) (hN : W.heap.size = N) {v : Value} {old : List Int} (so : SlI W (R + 1) B v old) (hB : B ≤ W.heap.size) (ho : old.length ≤ 100) (hs : Src W g) (hg : w.grownBy W (some g)) (hgR : g < R) (hw : w.heap.size ≤ R) (hRN : R < N) (y0 y1 y2 y3 y4 : Value) :
    ∃ (vz' vj' : Value) (r : R5), Ending.returned (.agg #[.int .i64 yr, .int .i64 lo, .int .i64 hi, v, .slice (some ⟨N, 0, none⟩) n n]) = .returned (.agg #[.int .i64 r.yr, .int .i64 r.lo, .int .i64 r.hi, vz', vj']) ∧ SlI ((((((W.setCell ⟨R, 0, none⟩ y0).setCell ⟨R, 1, none⟩ y1).setCell ⟨R, 2, none⟩ y2).setCell ⟨R, 3, none⟩ y3).setCell ⟨R, 4, none⟩ y4).alloc (.cells cs 2)) w.heap.size ((((((W.setCell ⟨R, 0, none⟩ y0).setCell ⟨R, 1, none⟩ y1).setCell ⟨R, 2, none⟩ y2).setCell ⟨R, 3, none⟩ y3).setCell ⟨R, 4, none⟩ y4).alloc (.cells cs 2)).heap.size vz' r.zones ∧ SlI ((((((W.setCell ⟨R, 0, none⟩ y0).setCell ⟨R, 1, none⟩ y1).setCell ⟨R, 2, none⟩ y2).setCell ⟨R, 3, none⟩ y3).setCell ⟨R, 4, none⟩ y4).alloc (.cells cs 2)) w.heap.size ((((((W.setCell ⟨R, 0, none⟩ y0).setCell ⟨R, 1, none⟩ y1).setCell ⟨R, 2, none⟩ y2).setCell ⟨R, 3, none⟩ y3).setCell ⟨R, 4, none⟩ y4).alloc (.cells cs 2)).heap.size vj' r.jobs ∧ r.zones.length ≤ 100 ∧ r.jobs.length ≤ 100 ∧ Src ((((((W.setCell ⟨R, 0, none⟩ y0).setCell ⟨R, 1, none⟩ y1).setCell ⟨R, 2, none⟩ y2).setCell ⟨R, 3, none⟩ y3).setCell ⟨R, 4, none⟩ y4).alloc (.cells cs 2)) g ∧ w.grownBy ((((((W.setCell ⟨R, 0, none⟩ y0).setCell ⟨R, 1, none⟩ y1).setCell ⟨R, 2, none⟩ y2).setCell ⟨R, 3, none⟩ y3).setCell ⟨R, 4, none⟩ y4).alloc (.cells cs 2)) (some g) := by
  have z5 : (((((W.setCell ⟨R, 0, none⟩ y0).setCell ⟨R, 1, none⟩ y1).setCell ⟨R, 2, none⟩ y2).setCell ⟨R, 3, none⟩ y3).setCell ⟨R, 4, none⟩ y4).heap.size = W.heap.size := by rw [size_setCell, size_setCell, size_setCell, size_setCell, size_setCell]
  have kN := laid_slI (((((W.setCell ⟨R, 0, none⟩ y0).setCell ⟨R, 1, none⟩ y1).setCell ⟨R, 2, none⟩ y2).setCell ⟨R, 3, none⟩ y3).setCell ⟨R, 4, none⟩ y4) 2 cs new n hn (by omega) hc
  have zA : ((((((W.setCell ⟨R, 0, none⟩ y0).setCell ⟨R, 1, none⟩ y1).setCell ⟨R, 2, none⟩ y2).setCell ⟨R, 3, none⟩ y3).setCell ⟨R, 4, none⟩ y4).alloc (.cells cs 2)).heap.size = (((((W.setCell ⟨R, 0, none⟩ y0).setCell ⟨R, 1, none⟩ y1).setCell ⟨R, 2, none⟩ y2).setCell ⟨R, 3, none⟩ y3).setCell ⟨R, 4, none⟩ y4).heap.size + 1 := by simp
  rw [z5, hN] at kN
  have kN := kN.more (lo' := w.heap.size) (hi' := ((((((W.setCell ⟨R, 0, none⟩ y0).setCell ⟨R, 1, none⟩ y1).setCell ⟨R, 2, none⟩ y2).setCell ⟨R, 3, none⟩ y3).setCell ⟨R, 4, none⟩ y4).alloc (.cells cs 2)).heap.size) (by omega) (by omega)
  have kO := ((so.keep fun C hC _ => dn_other (W := W) (R := R) y0 y1 y2 y3 y4 (by omega)).alloc (by omega) (.cells cs 2)).more (lo' := w.heap.size) (hi' := ((((((W.setCell ⟨R, 0, none⟩ y0).setCell ⟨R, 1, none⟩ y1).setCell ⟨R, 2, none⟩ y2).setCell ⟨R, 3, none⟩ y3).setCell ⟨R, 4, none⟩ y4).alloc (.cells cs 2)).heap.size) (by omega) (by omega)
  exact ⟨_, _, ⟨yr, lo, hi, old, new⟩, rfl, kO, kN, ho, by dsimp only; omega, (dn_src hs hgR y0 y1 y2 y3 y4).alloc _, gr_alloc (dn_gr hg hw y0 y1 y2 y3 y4) _⟩
set_option maxRecDepth 100000 in
set_option maxHeartbeats 8000000 in
theorem l06Rules_any (g : Nat) (w : World) (h : Src w g) :
    Calls Try.prog 69 #[.pointer (some ⟨g, 0, none⟩)] w fun e w' => ∃ (vz vj : Value) (r : R5), e = .returned (.agg #[.int .i64 r.yr, .int .i64 r.lo, .int .i64 r.hi, vz, vj]) ∧ SlI w' w.heap.size w'.heap.size vz r.zones ∧ SlI w' w.heap.size w'.heap.size vj r.jobs ∧ r.zones.length ≤ 100 ∧ r.jobs.length ≤ 100 ∧ Src w' g ∧ w.grownBy w' (some g) := by
  have lg := h.lt
  go_enter Try.func69, Try.ntmps69
  go_wp2_with fail
  have bR := Blk.new w 41 #[.int .i64 0, .int .i64 0, .int .i64 0, .slice none 0 0, .slice none 0 0]
  have h1 := h.alloc (.cells #[.int .i64 0, .int .i64 0, .int .i64 0, .slice none 0 0, .slice none 0 0] 41)
  have g1 := gr_alloc (World.grownBy.refl w (some g)) (.cells #[.int .i64 0, .int .i64 0, .int .i64 0, .slice none 0 0, .slice none 0 0] 41)
  generalize (w.alloc (.cells #[.int .i64 0, .int .i64 0, .int .i64 0, .slice none 0 0, .slice none 0 0] 41)) = w1 at *
  have lR := bR.lt
  refine (l01Next_any g 40 w1 h1).mono ?_
  rintro e w2 ⟨r1, rfl, a1, b1, _, h2, g2⟩
  have b1 := b1 (by omega)
  have bR := bR.grown g2 (dn_ne lg)
  have z2 := g2.size
  have G2 := grownBy_trans g1 g2
  clear h1 g1 g2
  go_wp2_with fail
  refine (l01Next_any g 8 w2 h2).mono ?_
  rintro e w3 ⟨r2, rfl, a2, b2, _, h3, g3⟩
  have b2 := b2 (by omega)
  have bR := bR.grown g3 (dn_ne lg)
  have z3 := g3.size
  have G3 := grownBy_trans G2 g3
  clear h2 G2 g3
  go_wp2_with fail
  refine (l01Next_any g 15 w3 h3).mono ?_
  rintro e w4 ⟨r3, rfl, a3, b3, _, h4, g4⟩
  have b3 := b3 (by omega)
  have bR := bR.grown g4 (dn_ne lg)
  have z4 := g4.size
  have G4 := grownBy_trans G3 g4
  clear h3 G3 g4
  have hR4 : w.heap.size < w4.heap.size := by omega
  have hzA : (w4.alloc (.cells #[.int .i64 0, .int .i64 1] 2)).heap.size = w4.heap.size + 1 := by simp
  have sz := rl_al (rl_al (laid_slI w4 2 #[.int .i64 0, .int .i64 1] [0, 1] 2 rfl (by decide) rfl) (by simp) (.cells #[.int .i64 3, .int .i64 7] 2)) (by simp) (.cells #[.int .i64 (2000 + r1), .int .i64 (18 + r2), .int .i64 (60 + r3), .slice (some ⟨w4.heap.size, 0, none⟩) 2 2, .slice (some ⟨w4.heap.size + 1, 0, none⟩) 2 2] 41)
  have sj := laid_slI (w4.alloc (.cells #[.int .i64 0, .int .i64 1] 2)) 2 #[.int .i64 3, .int .i64 7] [3, 7] 2 rfl (by decide) rfl
  rw [hzA] at sj
  have sj := rl_al sj (by simp) (.cells #[.int .i64 (2000 + r1), .int .i64 (18 + r2), .int .i64 (60 + r3), .slice (some ⟨w4.heap.size, 0, none⟩) 2 2, .slice (some ⟨w4.heap.size + 1, 0, none⟩) 2 2] 41)
  have sz := sz.more (lo' := w.heap.size + 1) (hi' := w4.heap.size + 1 + 1) (by omega) (by omega)
  have sj := sj.more (lo' := w.heap.size + 1) (hi' := w4.heap.size + 1 + 1) (by omega) (Nat.le_refl _)
  have bP : Blk (((w4.alloc (.cells #[.int .i64 0, .int .i64 1] 2)).alloc (.cells #[.int .i64 3, .int .i64 7] 2)).alloc (.cells #[.int .i64 (2000 + r1), .int .i64 (18 + r2), .int .i64 (60 + r3), .slice (some ⟨w4.heap.size, 0, none⟩) 2 2, .slice (some ⟨w4.heap.size + 1, 0, none⟩) 2 2] 41)) (w4.heap.size + 1 + 1) 41 #[.int .i64 (2000 + r1), .int .i64 (18 + r2), .int .i64 (60 + r3), .slice (some ⟨w4.heap.size, 0, none⟩) 2 2, .slice (some ⟨w4.heap.size + 1, 0, none⟩) 2 2] := Blk.new' (by simp)
  have bR := ((bR.alloc (.cells #[.int .i64 0, .int .i64 1] 2)).alloc (.cells #[.int .i64 3, .int .i64 7] 2)).alloc (.cells #[.int .i64 (2000 + r1), .int .i64 (18 + r2), .int .i64 (60 + r3), .slice (some ⟨w4.heap.size, 0, none⟩) 2 2, .slice (some ⟨w4.heap.size + 1, 0, none⟩) 2 2] 41)
  have h7 := ((h4.alloc (.cells #[.int .i64 0, .int .i64 1] 2)).alloc (.cells #[.int .i64 3, .int .i64 7] 2)).alloc (.cells #[.int .i64 (2000 + r1), .int .i64 (18 + r2), .int .i64 (60 + r3), .slice (some ⟨w4.heap.size, 0, none⟩) 2 2, .slice (some ⟨w4.heap.size + 1, 0, none⟩) 2 2] 41)
  have G7 := gr_alloc (gr_alloc (gr_alloc G4 (.cells #[.int .i64 0, .int .i64 1] 2)) (.cells #[.int .i64 3, .int .i64 7] 2)) (.cells #[.int .i64 (2000 + r1), .int .i64 (18 + r2), .int .i64 (60 + r3), .slice (some ⟨w4.heap.size, 0, none⟩) 2 2, .slice (some ⟨w4.heap.size + 1, 0, none⟩) 2 2] 41)
  have lgP : g < w4.heap.size + 1 + 1 := by omega
  have n1 : w.heap.size ≠ w4.heap.size + 1 + 1 := by omega
  have n2 : w4.heap.size + 1 + 1 ≠ w.heap.size := by omega
  have hwP : w.heap.size ≤ w4.heap.size + 1 + 1 := by omega
  have lPb := bP.lt
  clear h4 G4 hzA
  go_wp2_with fail
  generalize (((w4.alloc (.cells #[.int .i64 0, .int .i64 1] 2)).alloc (.cells #[.int .i64 3, .int .i64 7] 2)).alloc (.cells #[.int .i64 (2000 + r1), .int .i64 (18 + r2), .int .i64 (60 + r3), .slice (some ⟨w4.heap.size, 0, none⟩) 2 2, .slice (some ⟨w4.heap.size + 1, 0, none⟩) 2 2] 41)) = w7 at *
  have cLo : 18 ≤ 18 + r2 ∧ 18 + r2 ≤ 26 := by omega
  generalize 18 + r2 = lo at *
  generalize 2000 + r1 = yr at *
  generalize 60 + r3 = hi at *
  obtain ⟨PB, hPB⟩ : ∃ PB, w4.heap.size + 1 + 1 = PB := ⟨_, rfl⟩
  rw [hPB] at bP lgP n1 n2 hwP lPb sz sj
  rw [hPB]
  refine (l01Next_any g 24 w7 h7).mono ?_
  rintro e w8 ⟨r, rfl, _, _, _, h8, g8⟩
  have bR := bR.grown g8 (dn_ne lg)
  have bP := bP.grown g8 (dn_ne lgP)
  have sz := rl_gr sz (by omega) g8 lg
  have sj := rl_gr sj (by omega) g8 lg
  have G8 := grownBy_trans G7 g8
  have z8 := g8.size
  have lR8 := bR.lt
  have lP8 := bP.lt
  clear G7 h7 g8
  by_cases q0 : r = 0
  · subst q0
    obtain ⟨_, p1, _, _, _⟩ := dn_cells bP
    go_wp2_with fail
    refine (dn_pick g 4 [_, _, 150, 151] _ w8 h8 rfl (by decide) (by decide) (by rfl)).mono ?_
    rintro e w9 ⟨x, rfl, _, h9, g9⟩
    have bR := bR.grown g9 (dn_ne lg)
    have bP := bP.grown g9 (dn_ne lgP)
    have sz := rl_gr sz (by omega) g9 lg
    have sj := rl_gr sj (by omega) g9 lg
    have G9 := grownBy_trans G8 g9
    have z9 := g9.size
    clear g9 h8 G8
    clear p1
    obtain ⟨p0, p1, p2, p3, p4⟩ := dn_cells bP
    obtain ⟨fp0, fp1, fp2, fp3, fp4⟩ := dn_open bP
    obtain ⟨c0, c1, c2, c3, c4⟩ := dn_cells bR
    obtain ⟨f0, f1, f2, f3, f4⟩ := dn_open bR
    have lPn := bP.lt
    have HE := Lib.hid (rl_end (R := w.heap.size) yr lo x (rl_up (rl_set sz 2 (.int .i64 x)) (by rw [size_setCell]; omega)) (rl_up (rl_set sj 2 (.int .i64 x)) (by rw [size_setCell]; omega)) (by decide) (by decide) (h9.setCell (p := ⟨PB, 2, none⟩) lgP (.int .i64 x)) (gr_set G9 (p := ⟨PB, 2, none⟩) hwP (.int .i64 x)) lg (Nat.le_refl _))
    go_wp2_with fail
    exact bodyPost_ret (v := .agg #[.int .i64 yr, .int .i64 lo, .int .i64 x, .slice (some ⟨w4.heap.size, 0, none⟩) 2 2, .slice (some ⟨w4.heap.size + 1, 0, none⟩) 2 2]) (by simp [results, Try.results69, go_sem, c0, c1, c2, c3, c4, n1, n2]) rfl (HE.out _ _ _ _ _)
  have d0 : (r == 0) = false := by simpa using q0
  by_cases q1 : r = 1
  · subst q1
    go_wp2_with fail
    refine (dn_pick g 4 [1899, 1900, 2200, 2201] _ w8 h8 rfl (by decide) (by decide) (by rfl)).mono ?_
    rintro e w9 ⟨x, rfl, _, h9, g9⟩
    have bR := bR.grown g9 (dn_ne lg)
    have bP := bP.grown g9 (dn_ne lgP)
    have sz := rl_gr sz (by omega) g9 lg
    have sj := rl_gr sj (by omega) g9 lg
    have G9 := grownBy_trans G8 g9
    have z9 := g9.size
    clear g9 h8 G8
    obtain ⟨p0, p1, p2, p3, p4⟩ := dn_cells bP
    obtain ⟨fp0, fp1, fp2, fp3, fp4⟩ := dn_open bP
    obtain ⟨c0, c1, c2, c3, c4⟩ := dn_cells bR
    obtain ⟨f0, f1, f2, f3, f4⟩ := dn_open bR
    have lPn := bP.lt
    have HE := Lib.hid (rl_end (R := w.heap.size) x lo hi (rl_up (rl_set sz 0 (.int .i64 x)) (by rw [size_setCell]; omega)) (rl_up (rl_set sj 0 (.int .i64 x)) (by rw [size_setCell]; omega)) (by decide) (by decide) (h9.setCell (p := ⟨PB, 0, none⟩) lgP (.int .i64 x)) (gr_set G9 (p := ⟨PB, 0, none⟩) hwP (.int .i64 x)) lg (Nat.le_refl _))
    go_wp2_with fail
    exact bodyPost_ret (v := .agg #[.int .i64 x, .int .i64 lo, .int .i64 hi, .slice (some ⟨w4.heap.size, 0, none⟩) 2 2, .slice (some ⟨w4.heap.size + 1, 0, none⟩) 2 2]) (by simp [results, Try.results69, go_sem, c0, c1, c2, c3, c4, n1, n2]) rfl (HE.out _ _ _ _ _)
  have d1 : (r == 1) = false := by simpa using q1
  by_cases q2 : r = 2
  · subst q2
    obtain ⟨p0, p1, p2, p3, p4⟩ := dn_cells bP
    obtain ⟨fp0, fp1, fp2, fp3, fp4⟩ := dn_open bP
    obtain ⟨c0, c1, c2, c3, c4⟩ := dn_cells bR
    obtain ⟨f0, f1, f2, f3, f4⟩ := dn_open bR
    have hs6 := h8.setCell (p := ⟨PB, 3, none⟩) lgP (.slice (some ⟨w8.heap.size, 0, none⟩) 2 2)
    have G6 := gr_set G8 (p := ⟨PB, 3, none⟩) hwP (.slice (some ⟨w8.heap.size, 0, none⟩) 2 2)
    have hz6 := size_setCell w8 ⟨PB, 3, none⟩ (.slice (some ⟨w8.heap.size, 0, none⟩) 2 2)
    have lPn := bP.lt
    have lRn := bR.lt
    have HE := Lib.hid (rl_endZ (R := w.heap.size) yr lo hi #[.int .i64 1, .int .i64 1] [1, 1] 2 rfl (by decide) (by rfl) hz6 (rl_set sj 3 (.slice (some ⟨w8.heap.size, 0, none⟩) 2 2)) (by rw [hz6]; omega) (by decide) hs6 G6 lg (Nat.le_refl _) (by omega))
    have bRx := (bR.far (p := ⟨PB, 3, none⟩) n1 (.slice (some ⟨w8.heap.size, 0, none⟩) 2 2)).alloc (.cells #[.int .i64 1, .int .i64 1] 2)
    obtain ⟨cx0, cx1, cx2, cx3, cx4⟩ := dn_cells bRx
    obtain ⟨fx0, fx1, fx2, fx3, fx4⟩ := dn_open bRx
    have n3 : PB ≠ w8.heap.size := by have := bP.lt; omega
    have n4 : w.heap.size ≠ w8.heap.size := by have := bR.lt; omega
    clear hs6 G6 hz6
    have bRf := (dn_five (bR.far (p := ⟨PB, 3, none⟩) n1 (.slice (some ⟨w8.heap.size, 0, none⟩) 2 2)) (.int .i64 yr) (.int .i64 lo) (.int .i64 hi) (.slice (some ⟨w8.heap.size, 0, none⟩) 2 2) (.slice (some ⟨w4.heap.size + 1, 0, none⟩) 2 2)).alloc (.cells #[.int .i64 1, .int .i64 1] 2)
    obtain ⟨u0, u1, u2, u3, u4⟩ := dn_cells bRf
    clear bRf bRx
    go_wp2_with fail
    exact bodyPost_ret (v := .agg #[.int .i64 yr, .int .i64 lo, .int .i64 hi, .slice (some ⟨w8.heap.size, 0, none⟩) 2 2, .slice (some ⟨w4.heap.size + 1, 0, none⟩) 2 2]) (by simp [results, Try.results69, go_sem, c0, c1, c2, c3, c4, n1, n2, u0, u1, u2, u3, u4]) rfl (HE.out _ _ _ _ _)
  have d2 : (r == 2) = false := by simpa using q2
  by_cases q3 : r = 3
  · subst q3
    go_wp2_with fail
    refine (dn_pick g 3 [20, 21, -1] _ w8 h8 rfl (by decide) (by decide) (by rfl)).mono ?_
    rintro e w9 ⟨x, rfl, _, h9, g9⟩
    have bR := bR.grown g9 (dn_ne lg)
    have bP := bP.grown g9 (dn_ne lgP)
    have sz := rl_gr sz (by omega) g9 lg
    have sj := rl_gr sj (by omega) g9 lg
    have G9 := grownBy_trans G8 g9
    have z9 := g9.size
    clear g9 h8 G8
    obtain ⟨p0, p1, p2, p3, p4⟩ := dn_cells bP
    obtain ⟨fp0, fp1, fp2, fp3, fp4⟩ := dn_open bP
    obtain ⟨c0, c1, c2, c3, c4⟩ := dn_cells bR
    obtain ⟨f0, f1, f2, f3, f4⟩ := dn_open bR
    have hs6 := h9.setCell (p := ⟨PB, 4, none⟩) lgP (.slice (some ⟨w9.heap.size, 0, none⟩) 1 1)
    have G6 := gr_set G9 (p := ⟨PB, 4, none⟩) hwP (.slice (some ⟨w9.heap.size, 0, none⟩) 1 1)
    have hz6 := size_setCell w9 ⟨PB, 4, none⟩ (.slice (some ⟨w9.heap.size, 0, none⟩) 1 1)
    have lPn := bP.lt
    have lRn := bR.lt
    have HE := Lib.hid (rl_endJ (R := w.heap.size) yr lo hi #[.int .i64 x] [x] 1 rfl (by decide) (by rfl) hz6 (rl_set sz 4 (.slice (some ⟨w9.heap.size, 0, none⟩) 1 1)) (by rw [hz6]; omega) (by decide) hs6 G6 lg (Nat.le_refl _) (by omega))
    have bRx := (bR.far (p := ⟨PB, 4, none⟩) n1 (.slice (some ⟨w9.heap.size, 0, none⟩) 1 1)).alloc (.cells #[.int .i64 x] 2)
    obtain ⟨cx0, cx1, cx2, cx3, cx4⟩ := dn_cells bRx
    obtain ⟨fx0, fx1, fx2, fx3, fx4⟩ := dn_open bRx
    have n3 : PB ≠ w9.heap.size := by have := bP.lt; omega
    have n4 : w.heap.size ≠ w9.heap.size := by have := bR.lt; omega
    clear hs6 G6 hz6
    have bRf := (dn_five (bR.far (p := ⟨PB, 4, none⟩) n1 (.slice (some ⟨w9.heap.size, 0, none⟩) 1 1)) (.int .i64 yr) (.int .i64 lo) (.int .i64 hi) (.slice (some ⟨w4.heap.size, 0, none⟩) 2 2) (.slice (some ⟨w9.heap.size, 0, none⟩) 1 1)).alloc (.cells #[.int .i64 x] 2)
    obtain ⟨u0, u1, u2, u3, u4⟩ := dn_cells bRf
    clear bRf bRx
    go_wp2_with fail
    exact bodyPost_ret (v := .agg #[.int .i64 yr, .int .i64 lo, .int .i64 hi, .slice (some ⟨w4.heap.size, 0, none⟩) 2 2, .slice (some ⟨w9.heap.size, 0, none⟩) 1 1]) (by simp [results, Try.results69, go_sem, c0, c1, c2, c3, c4, n1, n2, u0, u1, u2, u3, u4]) rfl (HE.out _ _ _ _ _)
  have d3 : (r == 3) = false := by simpa using q3
  by_cases q4 : r = 4
  · subst q4
    obtain ⟨p0, p1, p2, p3, p4⟩ := dn_cells bP
    obtain ⟨fp0, fp1, fp2, fp3, fp4⟩ := dn_open bP
    obtain ⟨c0, c1, c2, c3, c4⟩ := dn_cells bR
    obtain ⟨f0, f1, f2, f3, f4⟩ := dn_open bR
    have hs6 := h8.setCell (p := ⟨PB, 3, none⟩) lgP (.slice (some ⟨w8.heap.size, 0, none⟩) 0 0)
    have G6 := gr_set G8 (p := ⟨PB, 3, none⟩) hwP (.slice (some ⟨w8.heap.size, 0, none⟩) 0 0)
    have hz6 := size_setCell w8 ⟨PB, 3, none⟩ (.slice (some ⟨w8.heap.size, 0, none⟩) 0 0)
    have lPn := bP.lt
    have lRn := bR.lt
    have HE := Lib.hid (rl_endZ (R := w.heap.size) yr lo hi #[] [] 0 rfl (by decide) (by rfl) hz6 (rl_set sj 3 (.slice (some ⟨w8.heap.size, 0, none⟩) 0 0)) (by rw [hz6]; omega) (by decide) hs6 G6 lg (Nat.le_refl _) (by omega))
    have bRx := (bR.far (p := ⟨PB, 3, none⟩) n1 (.slice (some ⟨w8.heap.size, 0, none⟩) 0 0)).alloc (.cells #[] 2)
    obtain ⟨cx0, cx1, cx2, cx3, cx4⟩ := dn_cells bRx
    obtain ⟨fx0, fx1, fx2, fx3, fx4⟩ := dn_open bRx
    have n3 : PB ≠ w8.heap.size := by have := bP.lt; omega
    have n4 : w.heap.size ≠ w8.heap.size := by have := bR.lt; omega
    clear hs6 G6 hz6
    have bRf := (dn_five (bR.far (p := ⟨PB, 3, none⟩) n1 (.slice (some ⟨w8.heap.size, 0, none⟩) 0 0)) (.int .i64 yr) (.int .i64 lo) (.int .i64 hi) (.slice (some ⟨w8.heap.size, 0, none⟩) 0 0) (.slice (some ⟨w4.heap.size + 1, 0, none⟩) 2 2)).alloc (.cells #[] 2)
    obtain ⟨u0, u1, u2, u3, u4⟩ := dn_cells bRf
    clear bRf bRx
    go_wp2_with fail
    exact bodyPost_ret (v := .agg #[.int .i64 yr, .int .i64 lo, .int .i64 hi, .slice (some ⟨w8.heap.size, 0, none⟩) 0 0, .slice (some ⟨w4.heap.size + 1, 0, none⟩) 2 2]) (by simp [results, Try.results69, go_sem, c0, c1, c2, c3, c4, n1, n2, u0, u1, u2, u3, u4]) rfl (HE.out _ _ _ _ _)
  have d4 : (r == 4) = false := by simpa using q4
  obtain ⟨p0, p1, p2, p3, p4⟩ := dn_cells bP
  obtain ⟨fp0, fp1, fp2, fp3, fp4⟩ := dn_open bP
  obtain ⟨c0, c1, c2, c3, c4⟩ := dn_cells bR
  obtain ⟨f0, f1, f2, f3, f4⟩ := dn_open bR
  have HE := Lib.hid (rl_end (R := w.heap.size) yr lo hi (rl_up sz (by omega)) (rl_up sj (by omega)) (by decide) (by decide) h8 G8 lg (Nat.le_refl _))
  go_wp2_with fail
  exact bodyPost_ret (v := .agg #[.int .i64 yr, .int .i64 lo, .int .i64 hi, .slice (some ⟨w4.heap.size, 0, none⟩) 2 2, .slice (some ⟨w4.heap.size + 1, 0, none⟩) 2 2]) (by simp [results, Try.results69, go_sem, c0, c1, c2, c3, c4, n1, n2]) rfl (HE.out _ _ _ _ _)
end Go.Proofs.Ytkhojhgcopnenaa
