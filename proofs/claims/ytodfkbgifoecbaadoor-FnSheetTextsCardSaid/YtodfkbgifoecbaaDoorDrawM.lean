/- Small lemmas for the functions that draw from the source. No condition. -/
import Derived.Test.YtodfkbgifoecbaaDoorDrawL
namespace Go.Proofs.YtodfkbgifoecbaaDoor
open Go.RowKit

theorem region_np {P : Program} {id : Nat} {ops : Array Oper} {b : Bool} {K : Act → World → Prop} {Q' : Exit → Act → World → Prop} {a : Act} {w : World} (h : (Code.region id ops b).wp P (Exit.then K fun _ _ _ => False) a w) : (Code.region id ops b).wp P (Exit.then K Q') a w :=
  Code.wp_mono (fun e a w h => by cases e <;> first | exact h | exact (h : False).elim) h
theorem gr_belowB {w w' w2 : World} {g B : Nat} (h : w.grownBy w' (some g)) (hb : Below B w' w2) (hB : w.heap.size ≤ B) : w.grownBy w2 (some g) :=
  ⟨hb.os.trans h.os, hb.tape.trans h.tape, hb.output.trans h.output, Nat.le_trans h.size hb.size, fun i hi hne => (hb.block i (by omega)).trans (h.block i hi hne)⟩
theorem ne_src {g b : Nat} (h : g < b) : some b ≠ some g := fun e => by have := Option.some.inj e; omega
section
variable {α : Type} {f : α → List Value} {s g lo base : Nat} {w w' : World} {v : Value} {xs : List α} {e : TypeId}
theorem SlR.gr (h : SlR f s w lo w.heap.size v xs) (hg : w.grownBy w' (some g)) (hl : g < lo) : SlR f s w' lo w'.heap.size v xs :=
  (h.grown hg (Nat.le_refl _) (fun k hk => by have := Option.some.inj hk; omega)).more (Nat.le_refl _) hg.size
theorem SlR.bel (h : SlR f s w lo w.heap.size v xs) (hb : Below w.heap.size w w') : SlR f s w' lo w'.heap.size v xs :=
  (h.below hb (Nat.le_refl _)).more (Nat.le_refl _) hb.size
theorem OwnR.gr (h : OwnR f s w base e v xs) (hg : w.grownBy w' (some g)) (hb : g < base) : OwnR f s w' base e v xs :=
  h.grown hg (fun k hk => by have := Option.some.inj hk; omega)
end
section
variable {w w' W : World} {T g R : Nat} {ty : TypeId} {cs : Array Value} {x y z u t : Value}
theorem Blk.gr (h : Blk w T ty cs) (hg : w.grownBy w' (some g)) (hb : g < T) : Blk w' T ty cs := h.grown hg (ne_src hb)
theorem r3_cells (b : Blk W T ty #[x, y, z]) : W.cell? ⟨T, 0, none⟩ = some x ∧ W.cell? ⟨T, 1, none⟩ = some y ∧ W.cell? ⟨T, 2, none⟩ = some z := ⟨b.cell 0, b.cell 1, b.cell 2⟩
theorem r3_open (b : Blk W T ty #[x, y, z]) : W.frozen? ⟨T, 0, none⟩ = false ∧ W.frozen? ⟨T, 1, none⟩ = false ∧ W.frozen? ⟨T, 2, none⟩ = false := ⟨b.frozen 0, b.frozen 1, b.frozen 2⟩
theorem r4_cells (b : Blk W T ty #[x, y, z, u]) : W.cell? ⟨T, 0, none⟩ = some x ∧ W.cell? ⟨T, 1, none⟩ = some y ∧ W.cell? ⟨T, 2, none⟩ = some z ∧ W.cell? ⟨T, 3, none⟩ = some u := ⟨b.cell 0, b.cell 1, b.cell 2, b.cell 3⟩
theorem r4_open (b : Blk W T ty #[x, y, z, u]) : W.frozen? ⟨T, 0, none⟩ = false ∧ W.frozen? ⟨T, 1, none⟩ = false ∧ W.frozen? ⟨T, 2, none⟩ = false ∧ W.frozen? ⟨T, 3, none⟩ = false := ⟨b.frozen 0, b.frozen 1, b.frozen 2, b.frozen 3⟩
theorem r5_cells (b : Blk W T ty #[x, y, z, u, t]) : W.cell? ⟨T, 0, none⟩ = some x ∧ W.cell? ⟨T, 1, none⟩ = some y ∧ W.cell? ⟨T, 2, none⟩ = some z ∧ W.cell? ⟨T, 3, none⟩ = some u ∧ W.cell? ⟨T, 4, none⟩ = some t := ⟨b.cell 0, b.cell 1, b.cell 2, b.cell 3, b.cell 4⟩
theorem r5_open (b : Blk W T ty #[x, y, z, u, t]) : W.frozen? ⟨T, 0, none⟩ = false ∧ W.frozen? ⟨T, 1, none⟩ = false ∧ W.frozen? ⟨T, 2, none⟩ = false ∧ W.frozen? ⟨T, 3, none⟩ = false ∧ W.frozen? ⟨T, 4, none⟩ = false := ⟨b.frozen 0, b.frozen 1, b.frozen 2, b.frozen 3, b.frozen 4⟩
theorem r3_set0 (b : Blk W T ty #[x, y, z]) (q : Value) : Blk (W.setCell ⟨T, 0, none⟩ q) T ty #[q, y, z] := by have := b.set_ 0 q; simpa using this
theorem r3_set1 (b : Blk W T ty #[x, y, z]) (q : Value) : Blk (W.setCell ⟨T, 1, none⟩ q) T ty #[x, q, z] := by have := b.set_ 1 q; simpa using this
theorem r3_set2 (b : Blk W T ty #[x, y, z]) (q : Value) : Blk (W.setCell ⟨T, 2, none⟩ q) T ty #[x, y, q] := by have := b.set_ 2 q; simpa using this
theorem r4_set0 (b : Blk W T ty #[x, y, z, u]) (q : Value) : Blk (W.setCell ⟨T, 0, none⟩ q) T ty #[q, y, z, u] := by have := b.set_ 0 q; simpa using this
theorem r4_set1 (b : Blk W T ty #[x, y, z, u]) (q : Value) : Blk (W.setCell ⟨T, 1, none⟩ q) T ty #[x, q, z, u] := by have := b.set_ 1 q; simpa using this
theorem r4_set2 (b : Blk W T ty #[x, y, z, u]) (q : Value) : Blk (W.setCell ⟨T, 2, none⟩ q) T ty #[x, y, q, u] := by have := b.set_ 2 q; simpa using this
theorem r4_set3 (b : Blk W T ty #[x, y, z, u]) (q : Value) : Blk (W.setCell ⟨T, 3, none⟩ q) T ty #[x, y, z, q] := by have := b.set_ 3 q; simpa using this
theorem r5_set0 (b : Blk W T ty #[x, y, z, u, t]) (q : Value) : Blk (W.setCell ⟨T, 0, none⟩ q) T ty #[q, y, z, u, t] := by have := b.set_ 0 q; simpa using this
theorem r5_set1 (b : Blk W T ty #[x, y, z, u, t]) (q : Value) : Blk (W.setCell ⟨T, 1, none⟩ q) T ty #[x, q, z, u, t] := by have := b.set_ 1 q; simpa using this
theorem r5_set2 (b : Blk W T ty #[x, y, z, u, t]) (q : Value) : Blk (W.setCell ⟨T, 2, none⟩ q) T ty #[x, y, q, u, t] := by have := b.set_ 2 q; simpa using this
theorem r5_set3 (b : Blk W T ty #[x, y, z, u, t]) (q : Value) : Blk (W.setCell ⟨T, 3, none⟩ q) T ty #[x, y, z, q, t] := by have := b.set_ 3 q; simpa using this
theorem r5_set4 (b : Blk W T ty #[x, y, z, u, t]) (q : Value) : Blk (W.setCell ⟨T, 4, none⟩ q) T ty #[x, y, z, u, q] := by have := b.set_ 4 q; simpa using this
def slen : Value → Nat
  | .slice _ n _ => n
  | _ => 0
theorem s3_src (h : Src W g) (hR : g < R) (a b c : Value) : Src (((W.setCell ⟨R, 0, none⟩ a).setCell ⟨R, 1, none⟩ b).setCell ⟨R, 2, none⟩ c) g :=
  ((h.setCell (p := ⟨R, 0, none⟩) hR a).setCell (p := ⟨R, 1, none⟩) hR b).setCell (p := ⟨R, 2, none⟩) hR c
theorem s3_gr (h : w.grownBy W (some g)) (hR : w.heap.size ≤ R) (a b c : Value) : w.grownBy (((W.setCell ⟨R, 0, none⟩ a).setCell ⟨R, 1, none⟩ b).setCell ⟨R, 2, none⟩ c) (some g) :=
  gr_set (gr_set (gr_set h (p := ⟨R, 0, none⟩) hR a) (p := ⟨R, 1, none⟩) hR b) (p := ⟨R, 2, none⟩) hR c
theorem s3_below {B : Nat} (h : Below B w W) (hR : B ≤ R) (a b c : Value) : Below B w (((W.setCell ⟨R, 0, none⟩ a).setCell ⟨R, 1, none⟩ b).setCell ⟨R, 2, none⟩ c) :=
  ((h.setCell (p := ⟨R, 0, none⟩) hR a).setCell (p := ⟨R, 1, none⟩) hR b).setCell (p := ⟨R, 2, none⟩) hR c
theorem s3_size (a b c : Value) : (((W.setCell ⟨R, 0, none⟩ a).setCell ⟨R, 1, none⟩ b).setCell ⟨R, 2, none⟩ c).heap.size = W.heap.size := by rw [size_setCell, size_setCell, size_setCell]
theorem s3_sl {α : Type} {f : α → List Value} {s lo hi : Nat} {v : Value} {xs : List α} (h : SlR f s W lo hi v xs) (hR : R < lo ∨ hi ≤ R) (a b c : Value) : SlR f s (((W.setCell ⟨R, 0, none⟩ a).setCell ⟨R, 1, none⟩ b).setCell ⟨R, 2, none⟩ c) lo hi v xs :=
  ((h.setCell ⟨R, 0, none⟩ a hR).setCell ⟨R, 1, none⟩ b hR).setCell ⟨R, 2, none⟩ c hR
end

theorem results_tmp4 {fn : Func} {t u v x : Tmp} (h : fn.results = #[.tmp t, .tmp u, .tmp v, .tmp x]) (tmps : Array Value) (P : Program) (w : World) :
    (results fn tmps).run P w = .ok (.tuple #[tmps.getD t undef, tmps.getD u undef, tmps.getD v undef, tmps.getD x undef]) w := by
  simp [results, h]
theorem results_tmp5 {fn : Func} {t u v x y : Tmp} (h : fn.results = #[.tmp t, .tmp u, .tmp v, .tmp x, .tmp y]) (tmps : Array Value) (P : Program) (w : World) :
    (results fn tmps).run P w = .ok (.tuple #[tmps.getD t undef, tmps.getD u undef, tmps.getD v undef, tmps.getD x undef, tmps.getD y undef]) w := by
  simp [results, h]

theorem nxt_lt {k n : Nat} (h1 : 1 < (n : Int) → (k : Int) < (n : Int)) (h2 : (n : Int) ≤ 1 → (k : Int) = 0) (h0 : 0 < n) : k < n := by
  by_cases h3 : 1 < (n : Int)
  · have := h1 h3; omega
  · have := h2 (by omega); omega

/-- One of some numbers that the statement lays out itself. -/
theorem pick_any (g n : Nat) (xs : List Int) (cs : Array Value) (w : World) (h : Src w g) (hn : xs.length = n) (h0 : 0 < n) (hm : n ≤ 1000) (hc : cs.toList = xs.flatMap i64s) :
    Calls Tryd.prog 68 #[.pointer (some ⟨g, 0, none⟩), .slice (some ⟨w.heap.size, 0, none⟩) n n] (w.alloc (.cells cs 2)) fun e w' => ∃ r : Int, e = .returned (.int .i64 r) ∧ r ∈ xs ∧ Src w' g ∧ w.grownBy w' (some g) := by
  refine (l01Pick_any g _ xs _ _ _ (h.alloc _) (laid_slI w _ cs xs n hn hm hc) (by simp) h.lt (by omega)).mono ?_
  rintro e w' ⟨r, h1, h2, h3, h4⟩
  exact ⟨r, h1, h2, h3, grownBy_trans (gr_alloc (World.grownBy.refl _ _) _) h4⟩
theorem pick_drew (g n : Nat) (xs : List Int) (cs : Array Value) (w : World) (h : Src w g) (hn : xs.length = n) (h0 : 0 < n) (hm : n ≤ 1000) (hc : cs.toList = xs.flatMap i64s) :
    Calls Tryd.prog 68 #[.pointer (some ⟨g, 0, none⟩), .slice (some ⟨w.heap.size, 0, none⟩) n n] (w.alloc (.cells cs 2)).drew fun e w' => ∃ r : Int, e = .returned (.int .i64 r) ∧ r ∈ xs ∧ Src w' g ∧ w.grownBy w' (some g) := by
  refine (l01Pick_any g _ xs _ _ _ (h.alloc _).drew (laid_slI w _ cs xs n hn hm hc).drew (by simp) h.lt (by omega)).mono ?_
  rintro e w' ⟨r, h1, h2, h3, h4⟩
  exact ⟨r, h1, h2, h3, grownBy_trans (gr_draw (gr_alloc (World.grownBy.refl _ _) _)) h4⟩
end Go.Proofs.YtodfkbgifoecbaaDoor
