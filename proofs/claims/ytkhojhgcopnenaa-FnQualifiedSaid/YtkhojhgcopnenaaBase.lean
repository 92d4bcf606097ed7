/- Plain lemmas on memory, used by the walks of this claim: slices that read as lists, rows that a call owns. No condition; nothing of the program is named. -/
import Derived.WalkKit
import Derived.WalkSpells
import Derived.WalkLawsBesides
import Derived.Lib.Hide
import Derived.Deep.Draws
import Derived.BigQuiet
namespace Go.Proofs.Ytkhojhgcopnenaa
open Go.RowKit

theorem drop_cons {α : Type} {l : List α} {k : Nat} {x : α} (h : l[k]? = some x) : l.drop k = x :: l.drop (k + 1) := by
  obtain ⟨hlt, e⟩ := List.getElem?_eq_some_iff.1 h
  rw [List.drop_eq_getElem_cons hlt, e]

theorem take_snoc {α : Type} {l : List α} {k : Nat} {x : α} (h : l[k]? = some x) : l.take (k + 1) = l.take k ++ [x] := by
  obtain ⟨hlt, e⟩ := List.getElem?_eq_some_iff.1 h
  rw [List.take_succ_eq_append_getElem hlt, e]

theorem some_at {α : Type} {l : List α} {k : Nat} (h : k < l.length) : ∃ x, l[k]? = some x := ⟨l[k], List.getElem?_eq_getElem h⟩

/-- Block b holds the cells xs from place off on. -/
def At (w : World) (b off : Nat) (xs : List Value) : Prop := ∀ j u, xs[j]? = some u → w.cell? ⟨b, off + j, none⟩ = some u

theorem At.below {w w' : World} {b off B : Nat} {xs : List Value} (h : At w b off xs) (hb : Below B w w') (hB : b < B) : At w' b off xs :=
  fun j u hu => (World.cell?_of_block (w := w) (hb.block b hB)).trans (h j u hu)
theorem At.new (w : World) (cs : Array Value) (e : TypeId) : At (w.alloc (.cells cs e)) w.heap.size 0 cs.toList := fun j u hu => by
  have := cell_of_row (w.alloc (.cells cs e)) w.heap.size (0 + j) cs e (0, 0) (heap_alloc_new w _)
  rw [this, Nat.zero_add, ← Array.getElem?_toList, hu]
theorem At.new_below {w w' : World} {cs : Array Value} {e : TypeId} (hb : Below (w.alloc (.cells cs e)).heap.size (w.alloc (.cells cs e)) w') : At w' w.heap.size 0 cs.toList :=
  (At.new w cs e).below hb (by simp)

/-- Block g is just the cells cs of element type t, none of them frozen. -/
def Blk (w : World) (g : Nat) (t : TypeId) (cs : Array Value) : Prop := w.heap[g]? = some (.cells cs t (0, 0))
section
variable {w w' : World} {g : Nat} {t : TypeId} {cs : Array Value}
theorem Blk.lt (h : Blk w g t cs) : g < w.heap.size := (Array.getElem?_eq_some_iff.1 h).1
theorem Blk.cell (h : Blk w g t cs) (i : Nat) : w.cell? ⟨g, i, none⟩ = cs[i]? := cell_of_row w g i cs t (0, 0) h
theorem Blk.frozen (h : Blk w g t cs) (i : Nat) : w.frozen? ⟨g, i, none⟩ = false := frozen_of_row w g i cs t h
theorem Blk.new (w : World) (t : TypeId) (cs : Array Value) : Blk (w.alloc (.cells cs t)) w.heap.size t cs := heap_alloc_new w _
theorem Blk.new' {w : World} {t : TypeId} {cs : Array Value} {g : Nat} (h : g = w.heap.size) : Blk (w.alloc (.cells cs t)) g t cs := by subst h; exact heap_alloc_new w _
theorem Blk.alloc (h : Blk w g t cs) (o : Obj) : Blk (w.alloc o) g t cs := (Below.heap_alloc w o g h.lt).trans h
theorem Blk.set_ (h : Blk w g t cs) (i : Nat) (u : Value) : Blk (w.setCell ⟨g, i, none⟩ u) g t (cs.setIfInBounds i u) := heap_setCell_same w g i cs t u h
theorem Blk.far (h : Blk w g t cs) {p : Addr} (hp : g ≠ p.block) (u : Value) : Blk (w.setCell p u) g t cs := (Below.heap_setCell w p u g hp).trans h
theorem Blk.below {B : Nat} (h : Blk w g t cs) (hb : Below B w w') (hg : g < B) : Blk w' g t cs := (hb.block g hg).trans h
theorem Blk.below' (h : Blk w g t cs) (hb : Below w.heap.size w w') : Blk w' g t cs := h.below hb h.lt
theorem Blk.grown {row : Option Nat} (h : Blk w g t cs) (hb : w.grownBy w' row) (hg : some g ≠ row) : Blk w' g t cs := (hb.block g h.lt hg).trans h
theorem Blk.at_ (h : Blk w g t cs) : At w g 0 cs.toList := fun j u hu => by rw [Nat.zero_add, h.cell, ← Array.getElem?_toList, hu]
end

/-- v is a slice of n elements of s cells each; they read xs; its block lies in lo .. hi-1. -/
def Sl (w : World) (lo hi s : Nat) (v : Value) (n : Nat) (xs : List Value) : Prop :=
  ∃ A c, v = .slice A n c ∧ n ≤ c ∧ c ≤ maxLen ∧ xs.length = n * s ∧ (0 < n → ∃ b off, A = some ⟨b, off, none⟩ ∧ lo ≤ b ∧ b < hi ∧ At w b off xs)

section
variable {w w' : World} {lo hi lo' hi' s n : Nat} {v : Value} {xs : List Value}

theorem Sl.form (h : Sl w lo hi s v n xs) : ∃ A c, v = .slice A n c ∧ n ≤ c ∧ c ≤ maxLen := by
  obtain ⟨A, c, h1, h2, h3, _⟩ := h
  exact ⟨A, c, h1, h2, h3⟩

theorem Sl.keep (h : Sl w lo hi s v n xs) (hk : ∀ k, lo ≤ k → k < hi → w'.heap[k]? = w.heap[k]?) : Sl w' lo hi s v n xs := by
  obtain ⟨A, c, h1, h2, h3, h4, h5⟩ := h
  refine ⟨A, c, h1, h2, h3, h4, fun hn => ?_⟩
  obtain ⟨b, off, e, hlo, hhi, hat⟩ := h5 hn
  exact ⟨b, off, e, hlo, hhi, fun j u hu => (World.cell?_of_block (w := w) (hk b hlo hhi)).trans (hat j u hu)⟩

theorem Sl.below {B : Nat} (h : Sl w lo hi s v n xs) (hb : Below B w w') (hB : hi ≤ B) : Sl w' lo hi s v n xs :=
  h.keep fun k _ hk => hb.block k (by omega)

theorem Sl.grown {row : Option Nat} (h : Sl w lo hi s v n xs) (hg : w.grownBy w' row) (hh : hi ≤ w.heap.size) (hr : ∀ g, row = some g → g < lo ∨ hi ≤ g) : Sl w' lo hi s v n xs :=
  h.keep fun k h1 h2 => hg.block k (by omega) (fun e => by have := hr k e.symm; omega)

theorem Sl.more (h : Sl w lo hi s v n xs) (h1 : lo' ≤ lo) (h2 : hi ≤ hi') : Sl w lo' hi' s v n xs := by
  obtain ⟨A, c, e1, e2, e3, e4, e5⟩ := h
  refine ⟨A, c, e1, e2, e3, e4, fun hn => ?_⟩
  obtain ⟨b, off, e, hlo, hhi, hat⟩ := e5 hn
  exact ⟨b, off, e, by omega, by omega, hat⟩

theorem Sl.nil (w : World) (lo hi s : Nat) : Sl w lo hi s (.slice none 0 0) 0 [] := ⟨none, 0, rfl, by simp, by simp, by simp, by omega⟩
end

/-! records -/
theorem flatMap_len {α : Type} {f : α → List Value} {s : Nat} (hf : ∀ x, (f x).length = s) : ∀ xs : List α, (xs.flatMap f).length = xs.length * s
  | [] => by simp
  | x :: xs => by rw [List.flatMap_cons, List.length_append, hf, flatMap_len hf xs, List.length_cons, Nat.add_mul]; omega

theorem flatMap_at {α : Type} {f : α → List Value} {s : Nat} (hf : ∀ x, (f x).length = s) : ∀ (xs : List α) (k j : Nat) (x : α), xs[k]? = some x → j < s → (xs.flatMap f)[k * s + j]? = (f x)[j]?
  | [], k, j, x, h, _ => by simp at h
  | y :: xs, 0, j, x, h, hj => by
    simp at h; subst h
    rw [List.flatMap_cons, Nat.zero_mul, Nat.zero_add, List.getElem?_append_left (by rw [hf]; exact hj)]
  | y :: xs, k + 1, j, x, h, hj => by
    rw [List.flatMap_cons, List.getElem?_append_right (by rw [hf, Nat.add_mul]; omega), hf]
    have := flatMap_at hf xs k j x (by simpa using h) hj
    rw [← this]; congr 1; rw [Nat.add_mul]; omega

/-- A slice of records. -/
def SlR {α : Type} (f : α → List Value) (s : Nat) (w : World) (lo hi : Nat) (v : Value) (xs : List α) : Prop :=
  (∀ x, (f x).length = s) ∧ Sl w lo hi s v xs.length (xs.flatMap f)

section
variable {α : Type} {f : α → List Value} {w w' : World} {lo hi lo' hi' s : Nat} {v : Value} {xs : List α}
theorem SlR.form (h : SlR f s w lo hi v xs) : ∃ A c, v = .slice A xs.length c ∧ xs.length ≤ c ∧ c ≤ 9223372036854775807 := h.2.form
theorem SlR.caps {A : Option Addr} {n c : Nat} (h : SlR f s w lo hi (.slice A n c) xs) : n ≤ c ∧ c ≤ 9223372036854775807 := by
  obtain ⟨A', c', e, h1, h2⟩ := h.form
  injection e with e1 e2 e3
  subst e2 e3
  exact ⟨h1, h2⟩
theorem SlR.keep (h : SlR f s w lo hi v xs) (hk : ∀ k, lo ≤ k → k < hi → w'.heap[k]? = w.heap[k]?) : SlR f s w' lo hi v xs := ⟨h.1, h.2.keep hk⟩
theorem SlR.below {B : Nat} (h : SlR f s w lo hi v xs) (hb : Below B w w') (hB : hi ≤ B) : SlR f s w' lo hi v xs := ⟨h.1, h.2.below hb hB⟩
theorem SlR.grown {row : Option Nat} (h : SlR f s w lo hi v xs) (hg : w.grownBy w' row) (hh : hi ≤ w.heap.size) (hr : ∀ g, row = some g → g < lo ∨ hi ≤ g) : SlR f s w' lo hi v xs := ⟨h.1, h.2.grown hg hh hr⟩
theorem SlR.more (h : SlR f s w lo hi v xs) (h1 : lo' ≤ lo) (h2 : hi ≤ hi') : SlR f s w lo' hi' v xs := ⟨h.1, h.2.more h1 h2⟩
theorem SlR.at_ {A : Option Addr} {n c k : Nat} {x : α} (h : SlR f s w lo hi (.slice A n c) xs) (hk : xs[k]? = some x) :
    ∃ b off, A = some ⟨b, off, none⟩ ∧ lo ≤ b ∧ b < hi ∧ ∀ j u, (f x)[j]? = some u → w.cell? ⟨b, off + (k * s + j), none⟩ = some u := by
  obtain ⟨hf, A', c', e, h2, h3, h4, h5⟩ := h
  have hlt : k < xs.length := (List.getElem?_eq_some_iff.1 hk).1
  obtain ⟨b, off, eA, hlo, hhi, hat⟩ := h5 (by omega)
  injection e with e1 e2 e3
  subst e1
  refine ⟨b, off, eA, hlo, hhi, fun j u hu => hat _ _ ?_⟩
  have hj : j < s := by have := (List.getElem?_eq_some_iff.1 hu).1; rw [hf] at this; exact this
  rw [flatMap_at hf xs k j x hk hj]; exact hu
end

theorem SlR.take {α : Type} {f : α → List Value} {w : World} {lo hi s n c : Nat} {A : Option Addr} {xs : List α} (h : SlR f s w lo hi (.slice A n c) xs) {k : Nat} (hk : k ≤ xs.length) : SlR f s w lo hi (.slice A k c) (xs.take k) := by
  obtain ⟨hf, A', c', e, h2, h3, h4, h5⟩ := h
  injection e with e1 e2 e3
  subst e1 e2 e3
  have hl : (xs.take k).length = k := by rw [List.length_take]; omega
  refine ⟨hf, A, c, by rw [hl], by rw [hl]; omega, h3, flatMap_len hf _, fun hn => ?_⟩
  rw [hl] at hn
  obtain ⟨b, off, rfl, hlo, hhi, hat⟩ := h5 (by omega)
  refine ⟨b, off, rfl, hlo, hhi, fun j u hu => hat j u ?_⟩
  have : xs.flatMap f = (xs.take k).flatMap f ++ (xs.drop k).flatMap f := by rw [← List.flatMap_append, List.take_append_drop]
  rw [this, List.getElem?_append_left (List.getElem?_eq_some_iff.1 hu).1]; exact hu

/-! numbers -/
def i64s (z : Int) : List Value := [.int .i64 z]
abbrev SlI (w : World) (lo hi : Nat) (v : Value) (zs : List Int) : Prop := SlR i64s 1 w lo hi v zs

theorem SlR.int_at {w : World} {lo hi : Nat} {zs : List Int} {A : Option Addr} {n c k : Nat} {x : Int} (h : SlI w lo hi (.slice A n c) zs) (hk : zs[k]? = some x) :
    ∃ b off, A = some ⟨b, off, none⟩ ∧ lo ≤ b ∧ b < hi ∧ w.cell? ⟨b, off + k, none⟩ = some (.int .i64 x) := by
  obtain ⟨b, off, e, h1, h2, h3⟩ := h.at_ hk
  exact ⟨b, off, e, h1, h2, by simpa using h3 0 _ rfl⟩

/-! rows that the call owns -/
theorem own_below {w w' : World} {base B : Nat} {e : TypeId} {s : Nat} {v : Value} {n : Nat} {xs : List Value} (h : w.ownsRow base e s v n xs) (hb : Below B w w') (hB : ∀ g, v.ownBlock = some g → g < B) : w'.ownsRow base e s v n xs := by
  refine ⟨h.1, ?_⟩
  rcases h.2 with h2 | ⟨g, cap, cur, rfl, h3, h4, r⟩
  · exact .inl h2
  · exact .inr ⟨g, cap, cur, rfl, h3, (hb.block g (hB g rfl)).trans h4, r⟩

theorem own_below' {w w' : World} {base : Nat} {e : TypeId} {s : Nat} {v : Value} {n : Nat} {xs : List Value} (h : w.ownsRow base e s v n xs) (hb : Below w.heap.size w w') : w'.ownsRow base e s v n xs :=
  own_below h hb fun g hg => (h.lt g hg).2

theorem Sl.of_own {w : World} {base : Nat} {e : TypeId} {s : Nat} {v : Value} {n : Nat} {xs : List Value} (h : w.ownsRow base e s v n xs) : Sl w base w.heap.size s v n xs := by
  obtain ⟨h1, h2⟩ := h
  rcases h2 with ⟨rfl, rfl⟩ | ⟨g, cap, cur, rfl, hb, hg, hnc, hcm, hcs, ht⟩
  · exact ⟨none, 0, rfl, by simp, by simp, h1, by omega⟩
  · refine ⟨_, cap, rfl, hnc, hcm, h1, fun hn => ⟨g, 0, rfl, hb, (Array.getElem?_eq_some_iff.1 hg).1, fun j u hu => ?_⟩⟩
    have := World.ownsRow.cells (w := w) (base := base) (e := e) (size := s) (v := .slice (some ⟨g, 0, none⟩) n cap) (n := n) (xs := xs) ⟨h1, .inr ⟨g, cap, cur, rfl, hb, hg, hnc, hcm, hcs, ht⟩⟩ (g := g) rfl j u hu
    rw [Addr.add_lit] at this
    exact this

/-- The call owns a row of records. -/
def OwnR {α : Type} (f : α → List Value) (s : Nat) (w : World) (base : Nat) (e : TypeId) (v : Value) (xs : List α) : Prop := w.ownsRow base e s v xs.length (xs.flatMap f)
section
variable {α : Type} {f : α → List Value} {s : Nat} {w w' : World} {base : Nat} {e : TypeId} {v : Value} {xs : List α}
theorem OwnR.own (h : OwnR f s w base e v xs) : w.ownsRow base e s v xs.length (xs.flatMap f) := h
theorem OwnR.mk (h : w.ownsRow base e s v xs.length (xs.flatMap f)) : OwnR f s w base e v xs := h
theorem OwnR.sl (hf : ∀ x, (f x).length = s) (h : OwnR f s w base e v xs) : SlR f s w base w.heap.size v xs := ⟨hf, Sl.of_own h⟩
theorem OwnR.below (h : OwnR f s w base e v xs) (hb : Below w.heap.size w w') : OwnR f s w' base e v xs := own_below' h hb
theorem OwnR.alloc (h : OwnR f s w base e v xs) (o : Obj) : OwnR f s (w.alloc o) base e v xs := World.ownsRow.alloc h o
theorem OwnR.grown {row : Option Nat} (h : OwnR f s w base e v xs) (hg : w.grownBy w' row) (hne : ∀ g, row = some g → g < base ∨ w.heap.size ≤ g) : OwnR f s w' base e v xs := by
  refine World.ownsRow.kept h hg ?_
  cases hv : v.ownBlock with
  | none => exact .inl rfl
  | some b =>
    refine .inr fun he => ?_
    have h1 := World.ownsRow.lt h b hv
    have := hne b he.symm
    omega
theorem OwnR.grown' {row : Option Nat} (h : OwnR f s w base e v xs) (hg : w.grownBy w' row) (hne : ∀ g k, row = some g → v.ownBlock = some k → g ≠ k) : OwnR f s w' base e v xs := by
  refine World.ownsRow.kept h hg ?_
  cases hv : v.ownBlock with
  | none => exact .inl rfl
  | some b => exact .inr fun he => hne b b he.symm hv rfl
theorem OwnR.more {base' : Nat} (h : OwnR f s w base e v xs) (hb : base' ≤ base) : OwnR f s w base' e v xs := by
  refine ⟨And.left h, ?_⟩
  rcases (show _ ∨ _ from And.right h) with h2 | ⟨g, cap, cur, h1, h2, h3⟩
  · exact .inl h2
  · exact .inr ⟨g, cap, cur, h1, Nat.le_trans hb h2, h3⟩
end

theorem own_slR {α : Type} {f : α → List Value} {s : Nat} (hf : ∀ x, (f x).length = s) {w : World} {base : Nat} {e : TypeId} {v : Value} {xs : List α} (h : w.ownsRow base e s v xs.length (xs.flatMap f)) : SlR f s w base w.heap.size v xs :=
  ⟨hf, Sl.of_own h⟩

/-- Cells set one by one from place m on. -/
def setFrom : List Value → Nat → List Value → List Value
  | xs, _, [] => xs
  | xs, m, v :: vs => setFrom (xs.set m v) (m + 1) vs

theorem setFrom_len : ∀ (vs xs : List Value) (m : Nat), (setFrom xs m vs).length = xs.length
  | [], _, _ => rfl
  | v :: vs, xs, m => by rw [setFrom, setFrom_len vs, List.length_set]

theorem take_setFrom : ∀ (vs xs : List Value) (m : Nat), m + vs.length ≤ xs.length → (setFrom xs m vs).take (m + vs.length) = xs.take m ++ vs
  | [], xs, m, _ => by simp [setFrom]
  | v :: vs, xs, m, h => by
    simp only [List.length_cons] at h
    rw [setFrom, List.length_cons, show m + (vs.length + 1) = (m + 1) + vs.length by omega, take_setFrom vs _ (m + 1) (by rw [List.length_set]; omega)]
    have : (xs.set m v).take (m + 1) = xs.take m ++ [v] := by
      rw [List.take_set, List.take_succ_eq_append_getElem (by omega)]
      rw [List.set_append_right _ _ (by simp; omega)]
      have : m - (List.take m xs).length = 0 := by simp; omega
      rw [this]; rfl
    rw [this, List.append_assoc]; rfl

def setCellsAt (w : World) (g : Nat) : Nat → List Value → World
  | _, [] => w
  | m, v :: vs => setCellsAt (w.setCell ⟨g, m, none⟩ v) g (m + 1) vs

theorem own_setFrom {base : Nat} {e : TypeId} {s g n cap : Nat} : ∀ (vs xs : List Value) (w : World) (m : Nat), w.ownsRow base e s (.slice (some ⟨g, 0, none⟩) n cap) n xs →
    (setCellsAt w g m vs).ownsRow base e s (.slice (some ⟨g, 0, none⟩) n cap) n (setFrom xs m vs) ∧ w.grownBy (setCellsAt w g m vs) (some g)
  | [], xs, w, m, h => ⟨h, World.grownBy.refl _ _⟩
  | v :: vs, xs, w, m, h => by
    obtain ⟨h1, h2⟩ := h.stored m v
    obtain ⟨h3, h4⟩ := own_setFrom vs _ _ (m + 1) h1
    exact ⟨h3, ⟨h4.os.trans h2.os, h4.tape.trans h2.tape, h4.output.trans h2.output, Nat.le_trans h2.size h4.size, fun k hk hne => (h4.block k (Nat.lt_of_lt_of_le hk h2.size) hne).trans (h2.block k hk hne)⟩⟩

/-- One more record is put into a row that is being filled. -/
theorem own_putR {α : Type} {f : α → List Value} {s : Nat} (hf : ∀ x, (f x).length = s) {w : World} {base : Nat} {e : TypeId} {g n cap k : Nat} {xs : List Value} {cs : List α} {x : α}
    (h : w.ownsRow base e s (.slice (some ⟨g, 0, none⟩) n cap) n xs) (hk : k < n) (hx : cs[k]? = some x) (hxs : xs.take (k * s) = (cs.take k).flatMap f) :
    (setCellsAt w g (k * s) (f x)).ownsRow base e s (.slice (some ⟨g, 0, none⟩) n cap) n (setFrom xs (k * s) (f x)) ∧
    (setFrom xs (k * s) (f x)).take ((k + 1) * s) = (cs.take (k + 1)).flatMap f ∧ w.grownBy (setCellsAt w g (k * s) (f x)) (some g) := by
  obtain ⟨h1, h2⟩ := own_setFrom (f x) xs w (k * s) h
  refine ⟨h1, ?_, h2⟩
  have hl : k * s + (f x).length ≤ xs.length := by
    rw [hf, h.1]
    have : (k + 1) * s ≤ n * s := Nat.mul_le_mul_right _ hk
    rw [Nat.add_mul] at this; omega
  have ht := take_setFrom (f x) xs (k * s) hl
  rw [hf] at ht
  rw [Nat.add_mul, Nat.one_mul, ht, hxs, take_snoc hx, List.flatMap_append]
  simp

theorem below_put {B : Nat} {a w w' : World} {g : Nat} (h : Below B a w) (hg : w.grownBy w' (some g)) (hB : B ≤ w.heap.size) (h2 : B ≤ g) : Below B a w' :=
  h.grown hg hB (by intro k hk; injection hk with hk; omega)

theorem own_cellAt {w : World} {base : Nat} {e : TypeId} {s g n cap : Nat} {xs : List Value} (h : w.ownsRow base e s (.slice (some ⟨g, 0, none⟩) n cap) n xs) (j : Nat) (hj : j < n * s) :
    (∃ u, w.cell? ⟨g, j, none⟩ = some u) ∧ w.frozen? ⟨g, j, none⟩ = false := by
  refine ⟨⟨xs[j]'(by rw [h.1]; exact hj), ?_⟩, h.frozenAt j⟩
  rw [h.cellAt j hj]; exact List.getElem?_eq_getElem _

/-! worlds that have only grown: W with new blocks behind its own, and some draws -/
structure Ext where
  bl : Array Obj
  dr : Nat
instance : Inhabited Ext := ⟨⟨#[], 0⟩⟩
def World.ext (w : World) (e : Ext) : World := { w with heap := w.heap ++ e.bl, drawn := e.dr }

@[go_sem] theorem cell?_ext (w : World) (e : Ext) (b off : Nat) (h : b < w.heap.size) : (World.ext w e).cell? ⟨b, off, none⟩ = w.cell? ⟨b, off, none⟩ := by
  simp only [World.cell?, World.ext]
  rw [Array.getElem?_append_left h]

theorem below_ext (w : World) (e : Ext) : Below w.heap.size w (World.ext w e) :=
  ⟨rfl, rfl, rfl, by simp [World.ext], fun k hk => by simp only [World.ext]; rw [Array.getElem?_append_left hk]⟩

theorem ext_of_below {w w' : World} (h : Below w.heap.size w w') : ∃ e, w' = World.ext w e := by
  obtain ⟨h1, h2, h3, h4, h5⟩ := h
  refine ⟨⟨w'.heap.extract w.heap.size w'.heap.size, w'.drawn⟩, ?_⟩
  obtain ⟨hp, tp, dr, os, out⟩ := w'
  simp only at h1 h2 h3 h4 h5
  subst h1 h2 h3
  simp only [World.ext, World.mk.injEq, and_true]
  apply Array.ext_getElem?
  intro i
  by_cases hi : i < w.heap.size
  · rw [Array.getElem?_append_left hi, h5 i hi]
  · rw [Array.getElem?_append_right (by omega), Array.getElem?_extract]
    by_cases h2 : i < hp.size
    · rw [if_pos (by omega)]; congr 1; omega
    · rw [if_neg (by omega)]; exact Array.getElem?_eq_none (by omega)

theorem ext_ext (w : World) (e e' : Ext) : ∃ e'', World.ext (World.ext w e) e' = World.ext w e'' :=
  ext_of_below ((below_ext w e).trans ((below_ext (World.ext w e) e').mono (below_ext w e).size))

/-- A region that draws its order; loads and calls that only make new memory. -/
theorem wp_region_ext {P : Program} {id : Nat} {Q : Exit → Act → World → Prop} {a : Act} {w : World} {l : List Oper} (hm : P.follows .mixedOrders = true) (hB : Region.lexB .any l.toArray = true)
    (h : wpQuiet P l.toArray (fun w' => ∃ e, w' = World.ext w e) (fun a' => ∀ w', Below w.heap.size w w' → Q .normal a' w') l a) : (Code.region id l.toArray true).wp P Q a w := by
  refine wp_region_quiet (C := fun w' => ∃ e, w' = World.ext w e) hm hB (ext_of_below (Below.refl _ _).drew) ?_
  have : ∀ l' a', wpQuiet P l.toArray (fun w' => ∃ e, w' = World.ext w e) (fun a' => ∀ w', Below w.heap.size w w' → Q .normal a' w') l' a' → wpQuiet P l.toArray (fun w' => ∃ e, w' = World.ext w e) (fun a' => ∀ w', (∃ e, w' = World.ext w e) → Q .normal a' w') l' a' := by
    intro l'
    induction l' with
    | nil => intro a' h w' ⟨e, he⟩; exact h w' (he ▸ below_ext w e)
    | cons o l' ih =>
      intro a' h
      unfold wpQuiet at h ⊢
      split
      · rename_i hw; rw [if_pos hw] at h
        exact Oper.quiet_mono ih h
      · rename_i hw; rw [if_neg hw] at h
        exact ih _ h
  simpa using this l a h

theorem calls_ext {P : Program} {f : FuncId} {args : Array Value} {w : World} {e : Ext} {v : Value}
    (h : Calls P f args (World.ext w e) fun x w' => x = .returned v ∧ Below (World.ext w e).heap.size (World.ext w e) w') : Calls P f args (World.ext w e) fun x w'' => x = .returned v ∧ ∃ e', w'' = World.ext w e' :=
  h.mono fun _ _ ⟨he, hm⟩ => ⟨he, ext_of_below ((below_ext w e).trans (hm.mono (below_ext w e).size))⟩
theorem calls_ext_same {P : Program} {f : FuncId} {args : Array Value} {w : World} {e : Ext} {v : Value}
    (h : Calls P f args (World.ext w e) fun x w' => x = .returned v ∧ World.ext w e = w') : Calls P f args (World.ext w e) fun x w'' => x = .returned v ∧ ∃ e', w'' = World.ext w e' :=
  h.mono fun _ _ ⟨he, hm⟩ => ⟨he, e, hm.symm⟩

theorem SlR.ext {α : Type} {f : α → List Value} {w : World} {lo hi s : Nat} {v : Value} {xs : List α} (h : SlR f s w lo hi v xs) (hh : hi ≤ w.heap.size) (e : Ext) : SlR f s (World.ext w e) lo (World.ext w e).heap.size v xs :=
  (h.below (below_ext w e) hh).more (Nat.le_refl _) (Nat.le_trans hh (below_ext w e).size)

/-- What a row is filled with when it is marked from k on. -/
def marks {α : Type} (mk : Int → α) (s : Nat) (k : Int) (n : Nat) : List α := (List.range n).map fun (i : Nat) => mk (k + (s : Int) * (i : Int))
theorem marks_len {α : Type} (mk : Int → α) (s : Nat) (k : Int) (n : Nat) : (marks mk s k n).length = n := by simp [marks]
theorem marks_at {α : Type} (mk : Int → α) (s : Nat) (k : Int) {n i : Nat} (h : i < n) : (marks mk s k n)[i]? = some (mk (k + (s : Int) * (i : Int))) := by simp [marks, h]

theorem own_form {w : World} {base : Nat} {e : TypeId} {s : Nat} {v : Value} {n : Nat} {xs : List Value} (h : w.ownsRow base e s v n xs) :
    ∃ A c, v = .slice A n c ∧ n ≤ c ∧ c ≤ 9223372036854775807 ∧ (0 < n → ∃ g, A = some ⟨g, 0, none⟩ ∧ base ≤ g ∧ g < w.heap.size) := by
  rcases h.2 with ⟨rfl, rfl⟩ | ⟨g, cap, cur, rfl, hb, hg, hnc, hcm, _⟩
  · exact ⟨none, 0, rfl, by simp, by simp, by omega⟩
  · exact ⟨_, cap, rfl, hnc, hcm, fun _ => ⟨g, rfl, hb, (Array.getElem?_eq_some_iff.1 hg).1⟩⟩

theorem grownBy_trans {a b c : World} {row : Option Nat} (h : a.grownBy b row) (k : b.grownBy c row) : a.grownBy c row :=
  ⟨k.os.trans h.os, k.tape.trans h.tape, k.output.trans h.output, Nat.le_trans h.size k.size, fun i hi hne => (k.block i (Nat.lt_of_lt_of_le hi h.size) hne).trans (h.block i hi hne)⟩

theorem grownBy_of_below {w w' : World} {row : Option Nat} (h : Below w.heap.size w w') : w.grownBy w' row := ⟨h.os, h.tape, h.output, h.size, fun i hi _ => h.block i hi⟩

theorem grownBy_setCell (w : World) (p : Addr) (u : Value) : w.grownBy (w.setCell p u) (some p.block) :=
  ⟨rfl, rfl, rfl, by simp [World.setCell], fun k _ hk => Below.heap_setCell w p u k (fun e => hk (by rw [e]))⟩
theorem OwnR.setCell {α : Type} {f : α → List Value} {s : Nat} {w : World} {base : Nat} {e : TypeId} {v : Value} {xs : List α} (h : OwnR f s w base e v xs) (p : Addr) (u : Value) (hp : ∀ k, v.ownBlock = some k → k ≠ p.block) : OwnR f s (w.setCell p u) base e v xs :=
  h.grown' (grownBy_setCell w p u) (fun g k hg hk he => hp k hk (by injection hg with hg; omega))
theorem SlR.setCell {α : Type} {f : α → List Value} {s : Nat} {w : World} {lo hi : Nat} {v : Value} {xs : List α} (h : SlR f s w lo hi v xs) (p : Addr) (u : Value) (hp : p.block < lo ∨ hi ≤ p.block) : SlR f s (w.setCell p u) lo hi v xs :=
  h.keep fun k h1 h2 => Below.heap_setCell w p u k (by omega)
theorem size_setCell (w : World) (p : Addr) (u : Value) : (w.setCell p u).heap.size = w.heap.size := by simp [World.setCell]

/-! append onto a row of the call's own -/
section
variable {P : Program} {α : Type} {f : α → List Value} {s : Nat}

theorem run_append_nilsrc (w : World) (base : Nat) (t ty e : TypeId) (i : TypeInfo) (size : Nat) (ht : P.underlying t = some (.slice e)) (hi : P.info? e = some i)
    (v : Value) (n : Nat) (xs : List Value) (hown : w.ownsRow base e size v n xs) (c : Nat) : (Builtin.append_ #[t, t] ty #[v, .slice none 0 c]).run P w = .ok v w := by
  rcases hown.2 with ⟨rfl, rfl⟩ | ⟨g, cap, cur, rfl, _, _, hnc, _⟩
  · simp [Builtin.append_, run_underlying ht, sizeOf, typeInfo, hi, Builtin.lenOf, Builtin.firstCells]
  · simp [Builtin.append_, run_underlying ht, sizeOf, typeInfo, hi, Builtin.lenOf, Builtin.firstCells, hnc, storeCells]

/-- A list read anywhere is appended. -/
theorem wpList_append_sl (w : World) (hf : ∀ x, (f x).length = s) (h1c : ∀ x, ∀ u ∈ f x, u.oneCell' = true) {ops : Array Oper} {rest : List Oper} {o : Oper} {a : Act} {Q : Exit → Act → World → Prop} (hgd : o.guard = none) (p q : Operand) (t : TypeId)
    (ho : o.op = .call { callee := .builtin .append, args := #[p, q], argTypes := #[t, t] })
    (base : Nat) (e : TypeId) {z : Value} {bytes : Nat} (hinfo : (P.info? e).map (fun i => (i.zero, i.size, i.bytes)) = some (some z, s, bytes)) (ht : P.underlying t = some (.slice e)) (hzs : z.cells.size = s) (hs0 : 0 < s)
    (v : Value) (xs ys : List α) (u : Value) (lo hi : Nat) (hs : a.eval p = v) (hown : OwnR f s w base e v xs) (hx : a.eval q = u) (hy : SlR f s w lo hi u ys)
    (hlen : (xs.length + ys.length) * bytes ≤ 140737488355328) (hl2 : xs.length + ys.length ≤ 9223372036854775807) (hB : base ≤ w.heap.size)
    (hK : ∀ v' w', OwnR f s w' base e v' (xs ++ ys) → (∀ B a0, Below B a0 w → B ≤ base → Below B a0 w') → w.grownBy w' v.ownBlock → wpList P ops Q rest (a.put o.dst v') w') :
    wpList P ops Q (o :: rest) a w := by
  obtain ⟨i, hi0, hi1, hi2, hi3⟩ := info_parts hinfo
  obtain ⟨A, c, rfl, h2, h3, h4, h5⟩ := hy.2
  have hb : ∀ w', w.grownBy w' v.ownBlock → ∀ B a0, Below B a0 w → B ≤ base → Below B a0 w' := fun w' hg B a0 hB0 hBb => hB0.grown hg (by omega) (fun k hk => by have := (hown.own.lt k hk).1; omega)
  refine wpList_plain hgd fun K hKK => ?_
  have fin : ∀ v' w', (Builtin.append_ #[t, t] o.type #[v, .slice A ys.length c]).run P w = .ok v' w' → K (a.put o.dst v') w' → o.wp P a w K Q := by
    intro v' w' hr hk
    unfold Oper.wp execOp
    simp only [ho, resolve, invoke, builtin, Sem.run_bind, Sem.run_pure, Result.andThen_ok, List.map_toArray, List.map_cons, List.map_nil, hs, hx, hr]
    exact hk
  rcases Nat.eq_zero_or_pos ys.length with h0 | h0
  · have hys : ys = [] := List.eq_nil_of_length_eq_zero h0
    subst hys
    cases A with
    | none =>
      refine fin v w (run_append_nilsrc w base t _ e i s ht hi0 v _ _ hown c) (hKK _ _ (hK v w (by simpa using hown) (fun B a0 hB0 _ => hB0) (World.grownBy.refl _ _)))
    | some ad =>
      obtain ⟨v', w', hr, g2, g3, _⟩ := run_append_own (P := P) w base t o.type e i z s bytes ht hi0 hi1 hi2 hi3 hzs hs0 v _ _ hown ad 0 c [] (by simp) (by simp) (by simp) (by unfold maxLen; simpa using hl2) (by simpa using hlen) hB
      exact fin v' w' hr (hKK _ _ (hK v' w' (by unfold OwnR; simpa using g2) (hb w' g3) g3))
  · obtain ⟨b, off, rfl, hlo, hhi, hat⟩ := h5 h0
    obtain ⟨v', w', hr, g2, g3, _⟩ := run_append_own (P := P) w base t o.type e i z s bytes ht hi0 hi1 hi2 hi3 hzs hs0 v _ _ hown ⟨b, off, none⟩ ys.length c (ys.flatMap f) h4
      (fun j u hu => by rw [Addr.add_lit]; exact hat j u hu) (fun u hu => by obtain ⟨x, _, hx⟩ := List.mem_flatMap.1 hu; exact h1c x u hx) (by unfold maxLen; exact hl2) hlen hB
    refine fin v' w' hr (hKK _ _ (hK v' w' ?_ (hb w' g3) g3))
    unfold OwnR; rw [List.length_append, List.flatMap_append]; exact g2

/-- One record, laid in a new block, is appended. -/
theorem wpList_append_rec (e : TypeId) (w : World) (cx : Array Value) (hf : ∀ x, (f x).length = s) (h1c : ∀ x, ∀ u ∈ f x, u.oneCell' = true) {ops : Array Oper} {rest : List Oper} {o : Oper} {a : Act} {Q : Exit → Act → World → Prop} (hgd : o.guard = none) (p q : Operand) (t : TypeId)
    (ho : o.op = .call { callee := .builtin .append, args := #[p, q], argTypes := #[t, t] })
    (base : Nat) {z : Value} {bytes : Nat} (hinfo : (P.info? e).map (fun i => (i.zero, i.size, i.bytes)) = some (some z, s, bytes)) (ht : P.underlying t = some (.slice e)) (hzs : z.cells.size = s) (hs0 : 0 < s)
    (v : Value) (xs : List α) (x : α) (hs : a.eval p = v) (hown : OwnR f s w base e v xs) {B1 : Nat} (hx : a.eval q = .slice (some ⟨B1, 0, none⟩) 1 1) (hB1 : B1 = w.heap.size) (hcx : cx.toList = f x)
    (hlen : (xs.length + 1) * bytes ≤ 140737488355328) (hl2 : xs.length + 1 ≤ 9223372036854775807) (hB : base ≤ w.heap.size)
    (hK : ∀ v' w', OwnR f s w' base e v' (xs ++ [x]) → (∀ B a0, Below B a0 w → B ≤ base → Below B a0 w') → wpList P ops Q rest (a.put o.dst v') w') :
    wpList P ops Q (o :: rest) a (w.alloc (.cells cx e)) := by
  subst hB1
  have hsz : cx.size = s := by rw [← Array.length_toList, hcx, hf]
  have hy : SlR f s (w.alloc (.cells cx e)) w.heap.size (w.heap.size + 1) (.slice (some ⟨w.heap.size, 0, none⟩) 1 1) [x] := by
    refine ⟨hf, some ⟨w.heap.size, 0, none⟩, 1, rfl, Nat.le_refl _, by unfold maxLen; omega, by simp [hf], fun _ => ⟨w.heap.size, 0, rfl, Nat.le_refl _, by omega, fun j u hu => ?_⟩⟩
    have := cell_of_row (w.alloc (.cells cx e)) w.heap.size (0 + j) cx e (0, 0) (heap_alloc_new w _)
    rw [this, Nat.zero_add, ← Array.getElem?_toList, hcx]
    simpa using hu
  exact wpList_append_sl _ hf h1c hgd p q t ho base e hinfo ht hzs hs0 v xs [x] _ _ _ hs (hown.alloc _) hx hy (by simpa using hlen) (by simpa using hl2) (by simp; omega)
    (fun v' w' g1 g2 _ => hK v' w' g1 (fun B a0 h1 h2 => g2 B a0 (h1.alloc (by omega) _) h2))
end
theorem i64s_one : ∀ (x : Int), ∀ u ∈ i64s x, u.oneCell' = true := by intro x u hu; simp [i64s] at hu; subst hu; rfl
theorem own_empty (w : World) (e : TypeId) (s : Nat) {α : Type} (f : α → List Value) : OwnR f s (w.alloc (.cells #[] e)) w.heap.size e (.slice (some ⟨w.heap.size, 0, none⟩) 0 0) ([] : List α) :=
  World.ownsRow_made w #[] 0 (Nat.le_refl _) (by simp) (by simp)
theorem own_nil (w : World) (B : Nat) (e : TypeId) (s : Nat) {α : Type} (f : α → List Value) : OwnR f s w B e (.slice none 0 0) ([] : List α) := World.ownsRow_nil w B e s

theorem ret_bool {a b : Bool} (h : a = b) : Ending.returned (.bool a) = .returned (.bool b) := by rw [h]
theorem ret_no {p : Prop} [Decidable p] (h : ¬ p) : Ending.returned (.bool false) = .returned (.bool (decide p)) := by simp [h]
theorem ret_yes {p : Prop} [Decidable p] (h : p) : Ending.returned (.bool true) = .returned (.bool (decide p)) := by simp [h]
theorem ret_int {k : IntKind} {a b : Int} (h : a = b) : Ending.returned (.int k a) = .returned (.int k b) := by rw [h]

/-! changes within an interval of blocks -/
structure Chg (lo hi : Nat) (w w' : World) : Prop where
  os : w'.os = w.os
  tape : w'.tape = w.tape
  output : w'.output = w.output
  size : w.heap.size ≤ w'.heap.size
  block : ∀ k, k < w.heap.size → k < lo ∨ hi ≤ k → w'.heap[k]? = w.heap[k]?
theorem Chg.refl (lo hi : Nat) (w : World) : Chg lo hi w w := ⟨rfl, rfl, rfl, Nat.le_refl _, fun _ _ _ => rfl⟩
theorem Chg.of_grown {lo hi : Nat} {w w' : World} {row : Option Nat} (h : w.grownBy w' row) (hr : ∀ g, row = some g → lo ≤ g ∧ g < hi) : Chg lo hi w w' :=
  ⟨h.os, h.tape, h.output, h.size, fun k hk ho => h.block k hk (fun e => by have := hr k e.symm; omega)⟩
theorem Chg.trans {lo hi : Nat} {a b c : World} (h : Chg lo hi a b) (k : Chg lo hi b c) : Chg lo hi a c :=
  ⟨k.os.trans h.os, k.tape.trans h.tape, k.output.trans h.output, Nat.le_trans h.size k.size, fun i hi ho => (k.block i (Nat.lt_of_lt_of_le hi h.size) ho).trans (h.block i hi ho)⟩
theorem Chg.mono {lo hi lo' hi' : Nat} {w w' : World} (h : Chg lo hi w w') (h1 : lo' ≤ lo) (h2 : hi ≤ hi') : Chg lo' hi' w w' :=
  ⟨h.os, h.tape, h.output, h.size, fun k hk ho => h.block k hk (by omega)⟩
theorem Chg.of_below {lo hi : Nat} {w w' : World} (h : Below w.heap.size w w') : Chg lo hi w w' := ⟨h.os, h.tape, h.output, h.size, fun k hk _ => h.block k hk⟩
theorem Chg.below {B lo hi : Nat} {a w w' : World} (hb : Below B a w) (hc : Chg lo hi w w') (h1 : B ≤ lo) (h2 : B ≤ w.heap.size) : Below B a w' :=
  ⟨hc.os.trans hb.os, hc.tape.trans hb.tape, hc.output.trans hb.output, Nat.le_trans hb.size hc.size, fun k hk => (hc.block k (by omega) (.inl (by omega))).trans (hb.block k hk)⟩
theorem Chg.blk {lo hi : Nat} {w w' : World} {g : Nat} {t : TypeId} {cs : Array Value} (h : Blk w g t cs) (hc : Chg lo hi w w') (hg : g < lo ∨ hi ≤ g) : Blk w' g t cs := (hc.block g h.lt hg).trans h
theorem SlR.chg {α : Type} {f : α → List Value} {w w' : World} {lo hi lo' hi' s : Nat} {v : Value} {xs : List α} (h : SlR f s w lo' hi' v xs) (hc : Chg lo hi w w') (hh : hi' ≤ w.heap.size) (hd : hi' ≤ lo ∨ hi ≤ lo') : SlR f s w' lo' hi' v xs :=
  h.keep fun k h1 h2 => hc.block k (by omega) (by omega)
theorem OwnR.keep {α : Type} {f : α → List Value} {s : Nat} {w w' : World} {base : Nat} {e : TypeId} {v : Value} {xs : List α} (h : OwnR f s w base e v xs) (hk : ∀ g, v.ownBlock = some g → w'.heap[g]? = w.heap[g]?) : OwnR f s w' base e v xs := by
  refine ⟨And.left h, ?_⟩
  rcases (show _ ∨ _ from And.right h) with h2 | ⟨g, cap, cur, rfl, h3, h4, r⟩
  · exact .inl h2
  · exact .inr ⟨g, cap, cur, rfl, h3, (hk g rfl).trans h4, r⟩

/-- The call owns a row of records that lies in lo .. hi-1. -/
structure OwI {α : Type} (f : α → List Value) (s : Nat) (e : TypeId) (w : World) (lo hi : Nat) (v : Value) (xs : List α) : Prop where
  own : OwnR f s w lo e v xs
  hi : ∀ g, v.ownBlock = some g → g < hi
section
variable {α : Type} {f : α → List Value} {s : Nat} {w w' : World} {lo hi lo' hi' : Nat} {e : TypeId} {v : Value} {xs : List α}
theorem OwI.of (h : OwnR f s w lo e v xs) : OwI f s e w lo w.heap.size v xs := ⟨h, fun g hg => (World.ownsRow.lt (OwnR.own h) g hg).2⟩
theorem OwI.rd (hf : ∀ x, (f x).length = s) (h : OwI f s e w lo hi v xs) : SlR f s w lo w.heap.size v xs := own_slR hf (OwnR.own h.own)
theorem OwI.below (h : OwI f s e w lo hi v xs) (hb : Below w.heap.size w w') : OwI f s e w' lo hi v xs := ⟨h.own.below hb, h.hi⟩
theorem OwI.chg (h : OwI f s e w lo hi v xs) (hc : Chg lo' hi' w w') (hd : hi ≤ lo' ∨ hi' ≤ lo) : OwI f s e w' lo hi v xs :=
  ⟨h.own.keep fun g hg => hc.block g (World.ownsRow.lt (OwnR.own h.own) g hg).2 (by have := h.hi g hg; have := (World.ownsRow.lt (OwnR.own h.own) g hg).1; omega), h.hi⟩
theorem OwI.in_ (h : OwI f s e w lo hi v xs) : ∀ g, v.ownBlock = some g → lo ≤ g ∧ g < hi := fun g hg => ⟨(World.ownsRow.lt (OwnR.own h.own) g hg).1, h.hi g hg⟩
theorem OwI.form (h : OwI f s e w lo hi v xs) : ∃ A c, v = .slice A xs.length c ∧ xs.length ≤ c ∧ c ≤ 9223372036854775807 := by
  obtain ⟨A, c, h1, h2, h3, _⟩ := own_form (OwnR.own h.own)
  exact ⟨A, c, h1, h2, h3⟩
end

/-! one field of one record is set -/
theorem flatMap_setField {α : Type} {f : α → List Value} {s : Nat} (hf : ∀ x, (f x).length = s) {j : Nat} (hj : j < s) {u : Value} {x x' : α} (hx : (f x).set j u = f x') : ∀ (cs : List α) (k : Nat), cs[k]? = some x → (cs.flatMap f).set (k * s + j) u = (cs.set k x').flatMap f
  | [], _, h => by simp at h
  | y :: t, 0, h => by
    simp at h; subst h
    rw [List.set_cons_zero, List.flatMap_cons, List.flatMap_cons, Nat.zero_mul, Nat.zero_add, List.set_append_left _ _ (by rw [hf]; exact hj), hx]
  | y :: t, k + 1, h => by
    rw [List.set_cons_succ, List.flatMap_cons, List.flatMap_cons, List.set_append_right _ _ (by rw [hf, Nat.add_mul]; omega), hf]
    have e : (k + 1) * s + j - s = k * s + j := by rw [Nat.add_mul]; omega
    rw [e, flatMap_setField hf hj hx t k (by simpa using h)]
theorem own_setField {α : Type} {f : α → List Value} {s : Nat} (hf : ∀ x, (f x).length = s) {w : World} {base : Nat} {e : TypeId} {g cap n : Nat} {cs : List α} {k j : Nat} {u : Value} {x x' : α}
    (h : OwnR f s w base e (.slice (some ⟨g, 0, none⟩) n cap) cs) (hk : cs[k]? = some x) (hj : j < s) (hx : (f x).set j u = f x') :
    OwnR f s (w.setCell ⟨g, k * s + j, none⟩ u) base e (.slice (some ⟨g, 0, none⟩) n cap) (cs.set k x') := by
  have hn : n = cs.length := by
    obtain ⟨A, c, e1, _⟩ := own_form (OwnR.own h)
    injection e1
  subst hn
  obtain ⟨h1, _⟩ := World.ownsRow.stored (OwnR.own h) (k * s + j) u
  unfold OwnR
  rw [List.length_set, ← flatMap_setField hf hj hx cs k hk]
  exact h1
end Go.Proofs.Ytkhojhgcopnenaa
