/- Words and persons that the laws draw. No condition. -/
import Derived.Test.YtkhojhgcopnenaaRegInv
import Derived.Test.YtkhojhgcopnenaaDrawL
import Derived.Deep.RegionLaw
namespace Go.Proofs.Ytkhojhgcopnenaa
open Go.RowKit
attribute [local go_sem ↓] Go.wp_at_zero Go.wp_at_succ

theorem dn_ne {g b : Nat} (h : g < b) : some b ≠ some g := fun e => by have := Option.some.inj e; omega
theorem blk_str {W : World} {g : Nat} {ty : TypeId} (N : Nat) (L : List ByteArray) {cs : Array Value} (hb : Blk W g ty cs) (hc : cs = (L.map Value.string).toArray) (hL : ∀ x ∈ L, x.size ≤ N) {k : Nat} (hk : k < L.length) :
    ∃ x : ByteArray, W.cell? ⟨g, k, none⟩ = some (.string x) ∧ x.size ≤ N := by
  obtain ⟨x, hx⟩ := some_at hk
  refine ⟨x, ?_, hL x (List.mem_of_getElem? hx)⟩
  rw [hb.cell, hc]
  simp [hx]

theorem dn_cells {W : World} {T : Nat} {ty : TypeId} {x y z u t : Value} (b : Blk W T ty #[x, y, z, u, t]) : W.cell? ⟨T, 0, none⟩ = some x ∧ W.cell? ⟨T, 1, none⟩ = some y ∧ W.cell? ⟨T, 2, none⟩ = some z ∧ W.cell? ⟨T, 3, none⟩ = some u ∧ W.cell? ⟨T, 4, none⟩ = some t := ⟨b.cell 0, b.cell 1, b.cell 2, b.cell 3, b.cell 4⟩
theorem dn_open {W : World} {T : Nat} {ty : TypeId} {x y z u t : Value} (b : Blk W T ty #[x, y, z, u, t]) : W.frozen? ⟨T, 0, none⟩ = false ∧ W.frozen? ⟨T, 1, none⟩ = false ∧ W.frozen? ⟨T, 2, none⟩ = false ∧ W.frozen? ⟨T, 3, none⟩ = false ∧ W.frozen? ⟨T, 4, none⟩ = false := ⟨b.frozen 0, b.frozen 1, b.frozen 2, b.frozen 3, b.frozen 4⟩
theorem g12_at {W : World} {g : Nat} {ty : TypeId} (hb : Blk W g ty #[.string ⟨#[97, 100, 97]⟩, .string ⟨#[98, 114, 117, 110, 111]⟩, .string ⟨#[99, 108, 97, 114, 97]⟩, .string ⟨#[100, 111, 114, 97]⟩, .string ⟨#[101, 109, 105, 108]⟩, .string ⟨#[102, 114, 105, 100, 97]⟩, .string ⟨#[103, 117, 115, 116, 97, 118]⟩, .string ⟨#[104, 97, 110, 110, 97]⟩, .string ⟨#[105, 118, 97, 110]⟩, .string ⟨#[106, 97, 110, 97]⟩, .string ⟨#[107, 97, 114, 108]⟩, .string ⟨#[108, 101, 110, 97]⟩]) {k : Nat} (hk : k < 12) : ∃ x : ByteArray, W.cell? ⟨g, k, none⟩ = some (.string x) ∧ x.size ≤ 20 :=
  blk_str 20 [⟨#[97, 100, 97]⟩, ⟨#[98, 114, 117, 110, 111]⟩, ⟨#[99, 108, 97, 114, 97]⟩, ⟨#[100, 111, 114, 97]⟩, ⟨#[101, 109, 105, 108]⟩, ⟨#[102, 114, 105, 100, 97]⟩, ⟨#[103, 117, 115, 116, 97, 118]⟩, ⟨#[104, 97, 110, 110, 97]⟩, ⟨#[105, 118, 97, 110]⟩, ⟨#[106, 97, 110, 97]⟩, ⟨#[107, 97, 114, 108]⟩, ⟨#[108, 101, 110, 97]⟩] hb rfl (by decide) hk
theorem w6_at {W : World} {g : Nat} {ty : TypeId} (hb : Blk W g ty #[.string ⟨#[]⟩, .string ⟨#[65, 100, 97]⟩, .string ⟨#[97, 49]⟩, .string ⟨#[97, 98, 99, 100, 101, 102, 103, 104, 105, 106, 107, 108, 109, 110, 111, 112]⟩, .string ⟨#[97, 98, 99, 100, 101, 102, 103, 104, 105, 106, 107, 108, 109, 110, 111, 112, 113]⟩, .string ⟨#[97, 32, 98]⟩]) {k : Nat} (hk : k < 6) : ∃ x : ByteArray, W.cell? ⟨g, k, none⟩ = some (.string x) ∧ x.size ≤ 20 :=
  blk_str 20 [⟨#[]⟩, ⟨#[65, 100, 97]⟩, ⟨#[97, 49]⟩, ⟨#[97, 98, 99, 100, 101, 102, 103, 104, 105, 106, 107, 108, 109, 110, 111, 112]⟩, ⟨#[97, 98, 99, 100, 101, 102, 103, 104, 105, 106, 107, 108, 109, 110, 111, 112, 113]⟩, ⟨#[97, 32, 98]⟩] hb rfl (by decide) hk
theorem fA_at {W : World} {g : Nat} {ty : TypeId} (hb : Blk W g ty #[.string ⟨#[97, 100, 97]⟩, .string ⟨#[97, 100, 97, 109]⟩, .string ⟨#[101, 118, 97]⟩, .string ⟨#[101, 118, 105]⟩, .string ⟨#[105, 100, 97]⟩]) {k : Nat} (hk : k < 5) : ∃ x : ByteArray, W.cell? ⟨g, k, none⟩ = some (.string x) ∧ x.size ≤ 20 :=
  blk_str 20 [⟨#[97, 100, 97]⟩, ⟨#[97, 100, 97, 109]⟩, ⟨#[101, 118, 97]⟩, ⟨#[101, 118, 105]⟩, ⟨#[105, 100, 97]⟩] hb rfl (by decide) hk
theorem lA_at {W : World} {g : Nat} {ty : TypeId} (hb : Blk W g ty #[.string ⟨#[98, 101, 114, 103]⟩, .string ⟨#[98, 117, 114, 103]⟩, .string ⟨#[98, 101, 114, 103, 115]⟩, .string ⟨#[115, 116, 101, 105, 110]⟩, .string ⟨#[116, 97, 108]⟩]) {k : Nat} (hk : k < 5) : ∃ x : ByteArray, W.cell? ⟨g, k, none⟩ = some (.string x) ∧ x.size ≤ 20 :=
  blk_str 20 [⟨#[98, 101, 114, 103]⟩, ⟨#[98, 117, 114, 103]⟩, ⟨#[98, 101, 114, 103, 115]⟩, ⟨#[115, 116, 101, 105, 110]⟩, ⟨#[116, 97, 108]⟩] hb rfl (by decide) hk
set_option maxRecDepth 100000 in
set_option maxHeartbeats 2000000 in
theorem l01Good_any (g : Nat) (w : World) (h : Src w g) :
    Calls Try.prog 94 #[.pointer (some ⟨g, 0, none⟩)] w fun e w' => ∃ s : ByteArray, e = .returned (.string s) ∧ s.size ≤ 20 ∧ Src w' g ∧ w.grownBy w' (some g) := by
  have lg := h.lt
  go_enter Try.func94, Try.ntmps94
  go_wp2_with fail
  have bA := Blk.new w 9 #[.string ⟨#[97, 100, 97]⟩, .string ⟨#[98, 114, 117, 110, 111]⟩, .string ⟨#[99, 108, 97, 114, 97]⟩, .string ⟨#[100, 111, 114, 97]⟩, .string ⟨#[101, 109, 105, 108]⟩, .string ⟨#[102, 114, 105, 100, 97]⟩, .string ⟨#[103, 117, 115, 116, 97, 118]⟩, .string ⟨#[104, 97, 110, 110, 97]⟩, .string ⟨#[105, 118, 97, 110]⟩, .string ⟨#[106, 97, 110, 97]⟩, .string ⟨#[107, 97, 114, 108]⟩, .string ⟨#[108, 101, 110, 97]⟩]
  have g1 := gr_alloc (World.grownBy.refl w (some g)) (.cells #[.string ⟨#[97, 100, 97]⟩, .string ⟨#[98, 114, 117, 110, 111]⟩, .string ⟨#[99, 108, 97, 114, 97]⟩, .string ⟨#[100, 111, 114, 97]⟩, .string ⟨#[101, 109, 105, 108]⟩, .string ⟨#[102, 114, 105, 100, 97]⟩, .string ⟨#[103, 117, 115, 116, 97, 118]⟩, .string ⟨#[104, 97, 110, 110, 97]⟩, .string ⟨#[105, 118, 97, 110]⟩, .string ⟨#[106, 97, 110, 97]⟩, .string ⟨#[107, 97, 114, 108]⟩, .string ⟨#[108, 101, 110, 97]⟩] 9)
  refine (l01Next_any g 12 _ (h.alloc _)).mono ?_
  rintro e w1 ⟨r, rfl, a1, b1, _, h1, g2⟩
  have b1 := b1 (by omega)
  obtain ⟨k, rfl⟩ : ∃ k : Nat, r = (k : Int) := ⟨r.toNat, by omega⟩
  have hk : k < 12 := by omega
  have G := grownBy_trans g1 g2
  obtain ⟨x, hx, sx⟩ := g12_at (bA.grown g2 (dn_ne lg)) hk
  clear bA g1 g2
  go_wp2_with fail
  go_ret
  exact ⟨x, rfl, sx, h1, G⟩
set_option maxRecDepth 100000 in
set_option maxHeartbeats 2000000 in
theorem l01DrawWord_any (g : Nat) (w : World) (h : Src w g) :
    Calls Try.prog 90 #[.pointer (some ⟨g, 0, none⟩)] w fun e w' => ∃ s : ByteArray, e = .returned (.string s) ∧ s.size ≤ 20 ∧ Src w' g ∧ w.grownBy w' (some g) := by
  go_enter Try.func90, Try.ntmps90
  go_wp2_with fail
  refine (l01Next_any g 24 w h).mono ?_
  rintro e w0 ⟨r0, rfl, _, _, _, h0, g0⟩
  have lg := h0.lt
  by_cases q : r0 = 0
  · subst q
    go_wp2_with fail
    have bA := Blk.new w0 9 #[.string ⟨#[]⟩, .string ⟨#[65, 100, 97]⟩, .string ⟨#[97, 49]⟩, .string ⟨#[97, 98, 99, 100, 101, 102, 103, 104, 105, 106, 107, 108, 109, 110, 111, 112]⟩, .string ⟨#[97, 98, 99, 100, 101, 102, 103, 104, 105, 106, 107, 108, 109, 110, 111, 112, 113]⟩, .string ⟨#[97, 32, 98]⟩]
    have g1 := gr_alloc g0 (.cells #[.string ⟨#[]⟩, .string ⟨#[65, 100, 97]⟩, .string ⟨#[97, 49]⟩, .string ⟨#[97, 98, 99, 100, 101, 102, 103, 104, 105, 106, 107, 108, 109, 110, 111, 112]⟩, .string ⟨#[97, 98, 99, 100, 101, 102, 103, 104, 105, 106, 107, 108, 109, 110, 111, 112, 113]⟩, .string ⟨#[97, 32, 98]⟩] 9)
    refine (l01Next_any g 6 _ (h0.alloc _)).mono ?_
    rintro e w1 ⟨r, rfl, a1, b1, _, h1, g2⟩
    have b1 := b1 (by omega)
    obtain ⟨k, rfl⟩ : ∃ k : Nat, r = (k : Int) := ⟨r.toNat, by omega⟩
    have hk : k < 6 := by omega
    have G := grownBy_trans g1 g2
    obtain ⟨x, hx, sx⟩ := w6_at (bA.grown g2 (dn_ne lg)) hk
    clear bA g1 g2
    go_wp2_with fail
    go_ret
    exact ⟨x, rfl, sx, h1, G⟩
  · have e0 : (r0 == 0) = false := by simpa using q
    go_wp2_with fail
    refine (l01Good_any g w0 h0).mono ?_
    rintro e w1 ⟨s, rfl, hs, h1, g1⟩
    go_wp2_with fail
    go_ret
    exact ⟨s, rfl, hs, h1, grownBy_trans g0 g1⟩

/-- What the value of each operation of a drawn person is, once it has come up. -/
def PG (g R : Nat) : Nat → Value → World → Prop
  | 0, v, _ | 4, v, _ | 9, v, _ | 13, v, _ | 16, v, _ | 21, v, _ => v = .pointer (some ⟨g, 0, none⟩)
  | 3, v, W => ∃ B, v = .slice (some ⟨B, 0, none⟩) 5 5 ∧ Blk W B 9 #[.string ⟨#[97, 100, 97]⟩, .string ⟨#[97, 100, 97, 109]⟩, .string ⟨#[101, 118, 97]⟩, .string ⟨#[101, 118, 105]⟩, .string ⟨#[105, 100, 97]⟩] ∧ R < B
  | 8, v, W => ∃ B, v = .slice (some ⟨B, 0, none⟩) 5 5 ∧ Blk W B 9 #[.string ⟨#[98, 101, 114, 103]⟩, .string ⟨#[98, 117, 114, 103]⟩, .string ⟨#[98, 101, 114, 103, 115]⟩, .string ⟨#[115, 116, 101, 105, 110]⟩, .string ⟨#[116, 97, 108]⟩] ∧ R < B
  | 5, v, _ | 10, v, _ => ∃ k : Nat, v = .int .i64 (k : Int) ∧ k < 5
  | 6, v, W => ∃ B k, v = .pointer (some ⟨B, k, none⟩) ∧ k < 5 ∧ Blk W B 9 #[.string ⟨#[97, 100, 97]⟩, .string ⟨#[97, 100, 97, 109]⟩, .string ⟨#[101, 118, 97]⟩, .string ⟨#[101, 118, 105]⟩, .string ⟨#[105, 100, 97]⟩] ∧ R < B
  | 11, v, W => ∃ B k, v = .pointer (some ⟨B, k, none⟩) ∧ k < 5 ∧ Blk W B 9 #[.string ⟨#[98, 101, 114, 103]⟩, .string ⟨#[98, 117, 114, 103]⟩, .string ⟨#[98, 101, 114, 103, 115]⟩, .string ⟨#[115, 116, 101, 105, 110]⟩, .string ⟨#[116, 97, 108]⟩] ∧ R < B
  | 7, v, _ | 12, v, _ => ∃ s : ByteArray, v = .string s ∧ s.size ≤ 20
  | 23, v, _ => ∃ (n : Int) (f l : ByteArray) (b z : Int), v = .agg #[.int .i64 n, .string f, .string l, .int .i64 b, .int .i64 z] ∧ f.size ≤ 20 ∧ l.size ≤ 20
  | _, v, _ => ∃ z : Int, v = .int .i64 z
theorem PG.keep {g R : Nat} {W W' : World} (hg : g < R) (hk : ∀ B, R < B → B < W.heap.size → W'.heap[B]? = W.heap[B]?) : ∀ (j : Nat) (v : Value), PG g R j v W → PG g R j v W' := by
  have kb : ∀ {B : Nat} {cs : Array Value}, R < B → Blk W B 9 cs → Blk W' B 9 cs := fun hR hb => (hk _ hR hb.lt).trans hb
  intro j v h
  match j, h with
  | 3, ⟨B, e, hb, hR⟩ => exact ⟨B, e, kb hR hb, hR⟩
  | 8, ⟨B, e, hb, hR⟩ => exact ⟨B, e, kb hR hb, hR⟩
  | 6, ⟨B, k, e, hk, hb, hR⟩ => exact ⟨B, k, e, hk, kb hR hb, hR⟩
  | 11, ⟨B, k, e, hk, hb, hR⟩ => exact ⟨B, k, e, hk, kb hR hb, hR⟩
  | 0, h | 1, h | 2, h | 4, h | 5, h | 7, h | 9, h | 10, h | 12, h | 13, h | 14, h | 15, h | 16, h | 17, h | 18, h | 19, h | 20, h | 21, h | 22, h | 23, h => exact h
  | n + 24, h => exact h
/-- The block of the result bears a person. -/
def PR (R : Nat) (W : World) : Prop := ∃ (n : Int) (f l : ByteArray) (b z : Int), Blk W R 43 #[.int .i64 n, .string f, .string l, .int .i64 b, .int .i64 z] ∧ f.size ≤ 20 ∧ l.size ≤ 20
structure LG (w0 : World) (g : Nat) (L : Array Bool) (a : Act) (W : World) : Prop where
  size : a.tmps.size = 27
  defers : a.defers = []
  list : L.size = 25
  t0 : a.tmps.getD 0 undef = .pointer (some ⟨g, 0, none⟩)
  t2 : a.tmps.getD 2 undef = .pointer (some ⟨w0.heap.size, 0, none⟩)
  src : Src W g
  gr : w0.grownBy W (some g)
  pr : PR w0.heap.size W
  at_ : ∀ j, j < 24 → L.getD j false = true → PG g w0.heap.size j (a.tmps.getD (j + 3) undef) W
theorem LG.put {w0 : World} {g : Nat} {L : Array Bool} {a : Act} {W W' : World} (h : LG w0 g L a W) (hg : g < w0.heap.size) {i : Nat} (hi : i < 24) {v : Value} (hs : Src W' g) (hG : w0.grownBy W' (some g)) (hk : ∀ B, w0.heap.size ≤ B → B < W.heap.size → W'.heap[B]? = W.heap[B]?) (hv : PG g w0.heap.size i v W') :
    LG w0 g (L.setIfInBounds i true) ⟨a.tmps.setIfInBounds (i + 3) v, a.defers⟩ W' := by
  refine ⟨by rw [Array.size_setIfInBounds]; exact h.size, h.defers, by rw [Array.size_setIfInBounds]; exact h.list, by rw [val_setOther (by omega)]; exact h.t0, by rw [val_setOther (by omega)]; exact h.t2, hs, hG, ?_, fun j hj hl => ?_⟩
  · obtain ⟨n, f, l, b, z, hb, h1, h2⟩ := h.pr
    exact ⟨n, f, l, b, z, (hk _ (Nat.le_refl _) hb.lt).trans hb, h1, h2⟩
  · by_cases e : i = j
    · subst e
      rw [val_setSame (by rw [h.size]; omega)]
      exact hv
    · rw [getD_setOther e] at hl
      rw [val_setOther (by omega)]
      exact PG.keep hg (fun B hB hlt => hk B (by omega) hlt) j _ (h.at_ j hj hl)
theorem LG.same {w0 : World} {g : Nat} {L : Array Bool} {a : Act} {W : World} (h : LG w0 g L a W) (hg : g < w0.heap.size) {i : Nat} (hi : i < 24) {v : Value} (hv : PG g w0.heap.size i v W) :
    LG w0 g (L.setIfInBounds i true) ⟨a.tmps.setIfInBounds (i + 3) v, a.defers⟩ W := h.put hg hi h.src h.gr (fun _ _ _ => rfl) hv
theorem LG.call {w0 : World} {g : Nat} {L : Array Bool} {a : Act} {W W' : World} (h : LG w0 g L a W) (hg : g < w0.heap.size) {i : Nat} (hi : i < 24) {v : Value} (hs : Src W' g) (hG : W.grownBy W' (some g)) (hv : PG g w0.heap.size i v W') :
    LG w0 g (L.setIfInBounds i true) ⟨a.tmps.setIfInBounds (i + 3) v, a.defers⟩ W' := h.put hg hi hs (grownBy_trans h.gr hG) (fun B hB hlt => hG.block B hlt (fun e => by have := Option.some.inj e; omega)) hv
theorem LG.make {w0 : World} {g : Nat} {L : Array Bool} {a : Act} {W : World} (h : LG w0 g L a W) (hg : g < w0.heap.size) {i : Nat} (hi : i < 24) {v : Value} (o : Obj) (hv : PG g w0.heap.size i v (W.alloc o)) :
    LG w0 g (L.setIfInBounds i true) ⟨a.tmps.setIfInBounds (i + 3) v, a.defers⟩ (W.alloc o) := h.put hg hi (h.src.alloc o) (gr_alloc h.gr o) (fun B _ hlt => Below.heap_alloc W o B hlt) hv
theorem dn_five {W : World} {R : Nat} {ty : TypeId} {x0 x1 x2 x3 x4 : Value} (hb : Blk W R ty #[x0, x1, x2, x3, x4]) (y0 y1 y2 y3 y4 : Value) :
    Blk (((((W.setCell ⟨R, 0, none⟩ y0).setCell ⟨R, 1, none⟩ y1).setCell ⟨R, 2, none⟩ y2).setCell ⟨R, 3, none⟩ y3).setCell ⟨R, 4, none⟩ y4) R ty #[y0, y1, y2, y3, y4] := by
  have := ((((hb.set_ 0 y0).set_ 1 y1).set_ 2 y2).set_ 3 y3).set_ 4 y4
  simpa using this
theorem dn_other {W : World} {R : Nat} (y0 y1 y2 y3 y4 : Value) {B : Nat} (h : B ≠ R) :
    (((((W.setCell ⟨R, 0, none⟩ y0).setCell ⟨R, 1, none⟩ y1).setCell ⟨R, 2, none⟩ y2).setCell ⟨R, 3, none⟩ y3).setCell ⟨R, 4, none⟩ y4).heap[B]? = W.heap[B]? := by
  rw [Below.heap_setCell _ _ _ _ h, Below.heap_setCell _ _ _ _ h, Below.heap_setCell _ _ _ _ h, Below.heap_setCell _ _ _ _ h, Below.heap_setCell _ _ _ _ h]
theorem dn_gr {w0 W : World} {R g : Nat} (h : w0.grownBy W (some g)) (hR : w0.heap.size ≤ R) (y0 y1 y2 y3 y4 : Value) :
    w0.grownBy (((((W.setCell ⟨R, 0, none⟩ y0).setCell ⟨R, 1, none⟩ y1).setCell ⟨R, 2, none⟩ y2).setCell ⟨R, 3, none⟩ y3).setCell ⟨R, 4, none⟩ y4) (some g) :=
  gr_set (gr_set (gr_set (gr_set (gr_set h (p := ⟨R, 0, none⟩) hR y0) (p := ⟨R, 1, none⟩) hR y1) (p := ⟨R, 2, none⟩) hR y2) (p := ⟨R, 3, none⟩) hR y3) (p := ⟨R, 4, none⟩) hR y4
theorem dn_src {W : World} {R g : Nat} (h : Src W g) (hR : g < R) (y0 y1 y2 y3 y4 : Value) :
    Src (((((W.setCell ⟨R, 0, none⟩ y0).setCell ⟨R, 1, none⟩ y1).setCell ⟨R, 2, none⟩ y2).setCell ⟨R, 3, none⟩ y3).setCell ⟨R, 4, none⟩ y4) g :=
  ((((h.setCell (p := ⟨R, 0, none⟩) hR y0).setCell (p := ⟨R, 1, none⟩) hR y1).setCell (p := ⟨R, 2, none⟩) hR y2).setCell (p := ⟨R, 3, none⟩) hR y3).setCell (p := ⟨R, 4, none⟩) hR y4
theorem LG.store {w0 : World} {g : Nat} {L : Array Bool} {a : Act} {W : World} (h : LG w0 g L a W) (hg : g < w0.heap.size) {n b z : Int} {f l : ByteArray} (hf : f.size ≤ 20) (hl : l.size ≤ 20) :
    LG w0 g (L.setIfInBounds 24 true) a (((((W.setCell ⟨w0.heap.size, 0, none⟩ (.int .i64 n)).setCell ⟨w0.heap.size, 1, none⟩ (.string f)).setCell ⟨w0.heap.size, 2, none⟩ (.string l)).setCell ⟨w0.heap.size, 3, none⟩ (.int .i64 b)).setCell ⟨w0.heap.size, 4, none⟩ (.int .i64 z)) := by
  obtain ⟨n0, f0, l0, b0, z0, hb, _, _⟩ := h.pr
  refine ⟨h.size, h.defers, by rw [Array.size_setIfInBounds]; exact h.list, h.t0, h.t2, dn_src h.src hg _ _ _ _ _, dn_gr h.gr (Nat.le_refl _) _ _ _ _ _, ⟨n, f, l, b, z, dn_five hb _ _ _ _ _, hf, hl⟩, fun j hj hlj => ?_⟩
  rw [getD_setOther (by omega)] at hlj
  exact PG.keep hg (fun B hB _ => dn_other _ _ _ _ _ (by omega)) j _ (h.at_ j hj hlj)

set_option maxRecDepth 100000 in
set_option maxHeartbeats 8000000 in
theorem l04Good_any (g : Nat) (w : World) (h : Src w g) :
    Calls Try.prog 83 #[.pointer (some ⟨g, 0, none⟩)] w fun e w' => ∃ (n : Int) (f l : ByteArray) (b z : Int), e = .returned (.agg #[.int .i64 n, .string f, .string l, .int .i64 b, .int .i64 z]) ∧ f.size ≤ 20 ∧ l.size ≤ 20 ∧ Src w' g ∧ w.grownBy w' (some g) := by
  have lg := h.lt
  go_enter Try.func83, Try.ntmps83
  go_wp2_with fail
  have bR := Blk.new w 43 #[.int .i64 0, .string ⟨#[]⟩, .string ⟨#[]⟩, .int .i64 0, .int .i64 0]
  have h1 := h.alloc (.cells #[.int .i64 0, .string ⟨#[]⟩, .string ⟨#[]⟩, .int .i64 0, .int .i64 0] 43)
  have g1 := gr_alloc (World.grownBy.refl w (some g)) (.cells #[.int .i64 0, .string ⟨#[]⟩, .string ⟨#[]⟩, .int .i64 0, .int .i64 0] 43)
  generalize (w.alloc (.cells #[.int .i64 0, .string ⟨#[]⟩, .string ⟨#[]⟩, .int .i64 0, .int .i64 0] 43)) = w1 at *
  refine wp_region_any (by kernel_rfl) ?_
  refine wpAny_inv (LG w g) ?_ ?_ _ _ _ _ ⟨rfl, rfl, rfl, rfl, rfl, h1.drew, gr_draw g1, ⟨0, ⟨#[]⟩, ⟨#[]⟩, 0, 0, bR, by decide, by decide⟩, fun j hj hl => ?_⟩ (cnt_start _)
  case refine_3 =>
    rw [Array.getD_eq_getD_getElem?, Array.getElem?_replicate] at hl
    split at hl <;> cases hl
  case refine_1 =>
    intro L a W i K hI hi hK
    have hlt := ready_lt hi
    have hS := hI.src
    have e0 := hI.t0
    have e2 := hI.t2
    obtain ⟨tmps, ds⟩ := a
    dsimp only at e0 e2
    match i, hlt with
    | 0, _ =>
      refine wpOp_of rfl rfl ?_
      go_simp
      exact hK _ _ (hI.same lg (i := 0) (by decide) rfl)
    | 1, _ =>
      have e3 : tmps.getD 3 undef = .pointer (some ⟨g, 0, none⟩) := hI.at_ 0 (by decide) (ready_dep 0 hi (by kernel_rfl))
      refine wpOp_of rfl rfl ?_
      go_simp
      refine (l01Next_any g 60 W hS).mono ?_
      rintro e w' ⟨r, rfl, a1, b1, _, h2, g2⟩
      exact hK _ _ (hI.call lg (i := 1) (by decide) h2 g2 ⟨r, rfl⟩)
    | 2, _ =>
      obtain ⟨z1, e4⟩ := hI.at_ 1 (by decide) (ready_dep 1 hi (by kernel_rfl))
      dsimp only at e4
      refine wpOp_of rfl rfl ?_
      go_simp
      exact hK _ _ (hI.same lg (i := 2) (by decide) ⟨_, rfl⟩)
    | 3, _ =>
      refine wpOp_of rfl rfl ?_
      go_simp
      exact hK _ _ (hI.make lg (i := 3) (by decide) _ ⟨W.heap.size, rfl, Blk.new W _ _, by have := hI.gr.size; obtain ⟨_, _, _, _, _, hb, _⟩ := hI.pr; exact hb.lt⟩)
    | 4, _ =>
      refine wpOp_of rfl rfl ?_
      go_simp
      exact hK _ _ (hI.same lg (i := 4) (by decide) rfl)
    | 5, _ =>
      have e7 : tmps.getD 7 undef = .pointer (some ⟨g, 0, none⟩) := hI.at_ 4 (by decide) (ready_dep 4 hi (by kernel_rfl))
      refine wpOp_of rfl rfl ?_
      go_simp
      refine (l01Next_any g 5 W hS).mono ?_
      rintro e w' ⟨r, rfl, a1, b1, _, h2, g2⟩
      have b1 := b1 (by omega)
      obtain ⟨k, rfl⟩ : ∃ k : Nat, r = (k : Int) := ⟨r.toNat, by omega⟩
      exact hK _ _ (hI.call lg (i := 5) (by decide) h2 g2 ⟨k, rfl, by omega⟩)
    | 6, _ =>
      obtain ⟨B3, e6, hb3, hR3⟩ := hI.at_ 3 (by decide) (ready_dep 3 hi (by kernel_rfl))
      dsimp only at e6
      obtain ⟨k5, e8, hk5⟩ := hI.at_ 5 (by decide) (ready_dep 5 hi (by kernel_rfl))
      dsimp only at e8
      have p5 : (k5 : Int) < 5 := by omega
      refine wpOp_of rfl rfl ?_
      go_simp
      exact hK _ _ (hI.same lg (i := 6) (by decide) ⟨B3, k5, rfl, hk5, hb3, hR3⟩)
    | 7, _ =>
      obtain ⟨B6, k6, e9, hk6, hb6, hR6⟩ := hI.at_ 6 (by decide) (ready_dep 6 hi (by kernel_rfl))
      dsimp only at e9
      obtain ⟨x, hx, sx⟩ := fA_at hb6 hk6
      refine wpOp_of rfl rfl ?_
      go_simp
      exact hK _ _ (hI.same lg (i := 7) (by decide) ⟨x, rfl, sx⟩)
    | 8, _ =>
      refine wpOp_of rfl rfl ?_
      go_simp
      exact hK _ _ (hI.make lg (i := 8) (by decide) _ ⟨W.heap.size, rfl, Blk.new W _ _, by have := hI.gr.size; obtain ⟨_, _, _, _, _, hb, _⟩ := hI.pr; exact hb.lt⟩)
    | 9, _ =>
      refine wpOp_of rfl rfl ?_
      go_simp
      exact hK _ _ (hI.same lg (i := 9) (by decide) rfl)
    | 10, _ =>
      have e12 : tmps.getD 12 undef = .pointer (some ⟨g, 0, none⟩) := hI.at_ 9 (by decide) (ready_dep 9 hi (by kernel_rfl))
      refine wpOp_of rfl rfl ?_
      go_simp
      refine (l01Next_any g 5 W hS).mono ?_
      rintro e w' ⟨r, rfl, a1, b1, _, h2, g2⟩
      have b1 := b1 (by omega)
      obtain ⟨k, rfl⟩ : ∃ k : Nat, r = (k : Int) := ⟨r.toNat, by omega⟩
      exact hK _ _ (hI.call lg (i := 10) (by decide) h2 g2 ⟨k, rfl, by omega⟩)
    | 11, _ =>
      obtain ⟨B8, e11, hb8, hR8⟩ := hI.at_ 8 (by decide) (ready_dep 8 hi (by kernel_rfl))
      dsimp only at e11
      obtain ⟨k10, e13, hk10⟩ := hI.at_ 10 (by decide) (ready_dep 10 hi (by kernel_rfl))
      dsimp only at e13
      have p10 : (k10 : Int) < 5 := by omega
      refine wpOp_of rfl rfl ?_
      go_simp
      exact hK _ _ (hI.same lg (i := 11) (by decide) ⟨B8, k10, rfl, hk10, hb8, hR8⟩)
    | 12, _ =>
      obtain ⟨B11, k11, e14, hk11, hb11, hR11⟩ := hI.at_ 11 (by decide) (ready_dep 11 hi (by kernel_rfl))
      dsimp only at e14
      obtain ⟨x, hx, sx⟩ := lA_at hb11 hk11
      refine wpOp_of rfl rfl ?_
      go_simp
      exact hK _ _ (hI.same lg (i := 12) (by decide) ⟨x, rfl, sx⟩)
    | 13, _ =>
      refine wpOp_of rfl rfl ?_
      go_simp
      exact hK _ _ (hI.same lg (i := 13) (by decide) rfl)
    | 14, _ =>
      have e16 : tmps.getD 16 undef = .pointer (some ⟨g, 0, none⟩) := hI.at_ 13 (by decide) (ready_dep 13 hi (by kernel_rfl))
      refine wpOp_of rfl rfl ?_
      go_simp
      refine (l01Next_any g 3 W hS).mono ?_
      rintro e w' ⟨r, rfl, a1, b1, _, h2, g2⟩
      exact hK _ _ (hI.call lg (i := 14) (by decide) h2 g2 ⟨r, rfl⟩)
    | 15, _ =>
      obtain ⟨z14, e17⟩ := hI.at_ 14 (by decide) (ready_dep 14 hi (by kernel_rfl))
      dsimp only at e17
      refine wpOp_of rfl rfl ?_
      go_simp
      exact hK _ _ (hI.same lg (i := 15) (by decide) ⟨_, rfl⟩)
    | 16, _ =>
      refine wpOp_of rfl rfl ?_
      go_simp
      exact hK _ _ (hI.same lg (i := 16) (by decide) rfl)
    | 17, _ =>
      have e19 : tmps.getD 19 undef = .pointer (some ⟨g, 0, none⟩) := hI.at_ 16 (by decide) (ready_dep 16 hi (by kernel_rfl))
      refine wpOp_of rfl rfl ?_
      go_simp
      refine (l01Next_any g 5 W hS).mono ?_
      rintro e w' ⟨r, rfl, a1, b1, _, h2, g2⟩
      exact hK _ _ (hI.call lg (i := 17) (by decide) h2 g2 ⟨r, rfl⟩)
    | 18, _ =>
      obtain ⟨z17, e20⟩ := hI.at_ 17 (by decide) (ready_dep 17 hi (by kernel_rfl))
      dsimp only at e20
      refine wpOp_of rfl rfl ?_
      go_simp
      exact hK _ _ (hI.same lg (i := 18) (by decide) ⟨_, rfl⟩)
    | 19, _ =>
      obtain ⟨z18, e21⟩ := hI.at_ 18 (by decide) (ready_dep 18 hi (by kernel_rfl))
      dsimp only at e21
      refine wpOp_of rfl rfl ?_
      go_simp
      exact hK _ _ (hI.same lg (i := 19) (by decide) ⟨_, rfl⟩)
    | 20, _ =>
      obtain ⟨z15, e18⟩ := hI.at_ 15 (by decide) (ready_dep 15 hi (by kernel_rfl))
      dsimp only at e18
      obtain ⟨z19, e22⟩ := hI.at_ 19 (by decide) (ready_dep 19 hi (by kernel_rfl))
      dsimp only at e22
      refine wpOp_of rfl rfl ?_
      go_simp
      exact hK _ _ (hI.same lg (i := 20) (by decide) ⟨_, rfl⟩)
    | 21, _ =>
      refine wpOp_of rfl rfl ?_
      go_simp
      exact hK _ _ (hI.same lg (i := 21) (by decide) rfl)
    | 22, _ =>
      have e24 : tmps.getD 24 undef = .pointer (some ⟨g, 0, none⟩) := hI.at_ 21 (by decide) (ready_dep 21 hi (by kernel_rfl))
      refine wpOp_of rfl rfl ?_
      go_simp
      refine (l01Next_any g 3 W hS).mono ?_
      rintro e w' ⟨r, rfl, a1, b1, _, h2, g2⟩
      exact hK _ _ (hI.call lg (i := 22) (by decide) h2 g2 ⟨r, rfl⟩)
    | 23, _ =>
      obtain ⟨z2, e5⟩ := hI.at_ 2 (by decide) (ready_dep 2 hi (by kernel_rfl))
      dsimp only at e5
      obtain ⟨s7, e10, hs7⟩ := hI.at_ 7 (by decide) (ready_dep 7 hi (by kernel_rfl))
      dsimp only at e10
      obtain ⟨s12, e15, hs12⟩ := hI.at_ 12 (by decide) (ready_dep 12 hi (by kernel_rfl))
      dsimp only at e15
      obtain ⟨z20, e23⟩ := hI.at_ 20 (by decide) (ready_dep 20 hi (by kernel_rfl))
      dsimp only at e23
      obtain ⟨z22, e25⟩ := hI.at_ 22 (by decide) (ready_dep 22 hi (by kernel_rfl))
      dsimp only at e25
      rw [Array.getD_eq_getD_getElem?] at e5
      rw [Array.getD_eq_getD_getElem?] at e10
      rw [Array.getD_eq_getD_getElem?] at e15
      rw [Array.getD_eq_getD_getElem?] at e23
      rw [Array.getD_eq_getD_getElem?] at e25
      refine wpOp_of rfl rfl ?_
      go_simp
      exact hK _ _ (hI.same lg (i := 23) (by decide) ⟨_, s7, s12, _, _, rfl, hs7, hs12⟩)
    | 24, _ =>
      obtain ⟨n, f, l, b, z, e26, hf, hl⟩ := hI.at_ 23 (by decide) (ready_dep 23 hi (by kernel_rfl))
      dsimp only at e26
      obtain ⟨n0, f0, l0, b0, z0, hb, _, _⟩ := hI.pr
      obtain ⟨c0, c1, c2, c3, c4⟩ := dn_cells hb
      obtain ⟨q0, q1, q2, q3, q4⟩ := dn_open hb
      refine wpOp_of rfl rfl ?_
      go_simp
      exact hK _ _ (hI.store lg hf hl)
    | n + 25, hn => exact absurd hn (by simp)
  case refine_2 =>
    intro L a W hI hr
    obtain ⟨n, f, l, b, z, hb, hf, hl⟩ := hI.pr
    obtain ⟨c0, c1, c2, c3, c4⟩ := dn_cells hb
    have e2 := hI.t2
    have ed := hI.defers
    obtain ⟨tmps, ds⟩ := a
    dsimp only at e2 ed
    subst ed
    clear hr
    rw [Array.getD_eq_getD_getElem?] at e2
    go_wp2_with fail
    exact bodyPost_ret (v := .agg #[.int .i64 n, .string f, .string l, .int .i64 b, .int .i64 z]) (by simp [results, Try.results83, go_sem, e2, c0, c1, c2, c3, c4]) rfl ⟨n, f, l, b, z, rfl, hf, hl, hI.src, hI.gr⟩
end Go.Proofs.Ytkhojhgcopnenaa
