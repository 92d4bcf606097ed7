/- Sheets (a day and the numbers that were present): copies, comparisons, sizes, the reading of a list of them. No condition but the sizes that the law itself asks. -/
import Derived.Test.YtodfkbgifoecbaaGreatDoorIntC
namespace Go.Proofs.YtodfkbgifoecbaaGreatDoor
open Go.ChangeShapes Go.WideShapes Go.ChangeAt Go.RowKit

/-- A sheet as it lies: its day, the slice, and what the slice reads. -/
structure H2 where
  day : Int
  A : Option Addr
  c : Nat
  pres : List Int
def H2.vals (x : H2) : List Value := [.int .i64 x.day, (.slice x.A x.pres.length x.c)]
def H2.ct (x : H2) : Int × List Int := (x.day, x.pres)
structure SlH (w : World) (lo hi : Nat) (v : Value) (xs : List H2) : Prop where
  outer : SlR H2.vals 2 w lo hi v xs
  inner : ∀ x ∈ xs, SlI w lo hi (.slice x.A x.pres.length x.c) x.pres
section
variable {w w' : World} {lo hi lo' hi' : Nat} {v : Value} {xs : List H2}
theorem SlH.form (h : SlH w lo hi v xs) : ∃ A c, v = .slice A xs.length c ∧ xs.length ≤ c ∧ c ≤ 9223372036854775807 := h.outer.form
theorem SlH.below {B : Nat} (h : SlH w lo hi v xs) (hb : Below B w w') (hB : hi ≤ B) : SlH w' lo hi v xs := ⟨h.outer.below hb hB, fun x hx => (h.inner x hx).below hb hB⟩
theorem SlH.more (h : SlH w lo hi v xs) (h1 : lo' ≤ lo) (h2 : hi ≤ hi') : SlH w lo' hi' v xs := ⟨h.outer.more h1 h2, fun x hx => (h.inner x hx).more h1 h2⟩
theorem SlH.grown {row : Option Nat} (h : SlH w lo hi v xs) (hg : w.grownBy w' row) (hh : hi ≤ w.heap.size) (hr : ∀ g, row = some g → g < lo ∨ hi ≤ g) : SlH w' lo hi v xs := ⟨h.outer.grown hg hh hr, fun x hx => (h.inner x hx).grown hg hh hr⟩
theorem SlH.at_ {A : Option Addr} {n c k : Nat} {x : H2} (h : SlH w lo hi (.slice A n c) xs) (hk : xs[k]? = some x) :
    ∃ b off, A = some ⟨b, off, none⟩ ∧ lo ≤ b ∧ b < hi ∧ w.cell? ⟨b, off + k * 2, none⟩ = some (.int .i64 x.day) ∧ w.cell? ⟨b, off + k * 2 + 1, none⟩ = some (.slice x.A x.pres.length x.c) ∧ SlI w lo hi (.slice x.A x.pres.length x.c) x.pres := by
  obtain ⟨b, off, e, h1, h2, h3⟩ := h.outer.at_ hk
  exact ⟨b, off, e, h1, h2, h3 0 _ rfl, h3 1 _ rfl, h.inner x (List.mem_of_getElem? hk)⟩
theorem SlH.ext (h : SlH w lo hi v xs) (hh : hi ≤ w.heap.size) (e : Ext) : SlH (World.ext w e) lo (World.ext w e).heap.size v xs := ⟨h.outer.ext hh e, fun x hx => (h.inner x hx).ext hh e⟩
end

section
variable {w w' : World} {base : Nat} {v : Value} {xs : List H2}
end

theorem own_rowH2 {w : World} {base : Nat} {e : TypeId} {g n c : Nat} {xs : List Value} (h : w.ownsRow base e 2 (.slice (some ⟨g, 0, none⟩) n c) n xs) {k : Nat} (hk : k < n) :
    (∃ u, w.cell? ⟨g, k * 2, none⟩ = some u) ∧ (∃ u, w.cell? ⟨g, k * 2 + 1, none⟩ = some u) ∧ w.frozen? ⟨g, k * 2, none⟩ = false ∧ w.frozen? ⟨g, k * 2 + 1, none⟩ = false :=
  ⟨(own_cellAt h (k * 2) (by omega)).1, (own_cellAt h (k * 2 + 1) (by omega)).1, (own_cellAt h (k * 2) (by omega)).2, (own_cellAt h (k * 2 + 1) (by omega)).2⟩

/-- v reads as sheets with these days and numbers. -/
def RdH (w : World) (lo hi : Nat) (v : Value) (z : List (Int × List Int)) : Prop := ∃ xs, SlH w lo hi v xs ∧ xs.map H2.ct = z
section
variable {w w' : World} {lo hi lo' hi' : Nat} {v : Value} {z : List (Int × List Int)}
theorem RdH.form (h : RdH w lo hi v z) : ∃ A c, v = .slice A z.length c ∧ z.length ≤ c ∧ c ≤ 9223372036854775807 := by
  obtain ⟨xs, h, rfl⟩ := h
  rw [List.length_map]; exact h.form
theorem RdH.below {B : Nat} (h : RdH w lo hi v z) (hb : Below B w w') (hB : hi ≤ B) : RdH w' lo hi v z := h.imp fun _ h => ⟨h.1.below hb hB, h.2⟩
theorem RdH.more (h : RdH w lo hi v z) (h1 : lo' ≤ lo) (h2 : hi ≤ hi') : RdH w lo' hi' v z := h.imp fun _ h => ⟨h.1.more h1 h2, h.2⟩
theorem RdH.chg (h : RdH w lo' hi' v z) (hc : Chg lo hi w w') (hh : hi' ≤ w.heap.size) (hd : hi' ≤ lo ∨ hi ≤ lo') : RdH w' lo' hi' v z := h.imp fun _ h => ⟨⟨h.1.outer.chg hc hh hd, fun x hx => (h.1.inner x hx).chg hc hh hd⟩, h.2⟩
end

end Go.Proofs.YtodfkbgifoecbaaGreatDoor
