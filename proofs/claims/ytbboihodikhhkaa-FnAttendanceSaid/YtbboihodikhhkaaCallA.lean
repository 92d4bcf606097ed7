/- Records of 4 numbers (Call): copies, comparisons, marks, the reading of a list of them. No condition but the sizes that the law itself asks. -/
import Derived.Test.YtbboihodikhhkaaLeaf
import Derived.Test.YtbboihodikhhkaaFrame
namespace Go.Proofs.Ytbboihodikhhkaa
open Go.ChangeShapes Go.WideShapes Go.ChangeAt Go.RowKit

structure C4 where
  num : Int
  first : Int
  day : Int
  moves : Int
  deriving DecidableEq

def C4.vals (c : C4) : List Value := [.int .i64 c.num, .int .i64 c.first, .int .i64 c.day, .int .i64 c.moves]
def C4.val (c : C4) : Value := .agg #[.int .i64 c.num, .int .i64 c.first, .int .i64 c.day, .int .i64 c.moves]
abbrev SlC4 (w : World) (lo hi : Nat) (v : Value) (cs : List C4) : Prop := SlR C4.vals 4 w lo hi v cs

theorem SlR.C4_at {w : World} {lo hi : Nat} {cs : List C4} {A : Option Addr} {n c k : Nat} {x : C4} (h : SlC4 w lo hi (.slice A n c) cs) (hk : cs[k]? = some x) :
    ∃ b off, A = some ⟨b, off, none⟩ ∧ lo ≤ b ∧ b < hi ∧ w.cell? ⟨b, off + k * 4, none⟩ = some (.int .i64 x.num) ∧ w.cell? ⟨b, off + k * 4 + 1, none⟩ = some (.int .i64 x.first) ∧ w.cell? ⟨b, off + k * 4 + 2, none⟩ = some (.int .i64 x.day) ∧ w.cell? ⟨b, off + k * 4 + 3, none⟩ = some (.int .i64 x.moves) := by
  obtain ⟨b, off, e, h1, h2, h3⟩ := h.at_ hk
  exact ⟨b, off, e, h1, h2, h3 0 _ rfl, h3 1 _ rfl, h3 2 _ rfl, h3 3 _ rfl⟩
theorem own_slC4 {w : World} {base : Nat} {e : TypeId} {v : Value} {xs : List C4} (h : OwnR C4.vals 4 w base e v xs) : SlC4 w base w.heap.size v xs := own_slR (f := C4.vals) (s := 4) (fun _ => rfl) h


theorem C4.eq_iff (a b : C4) : decide (a = b) = (a.num == b.num && a.first == b.first && a.day == b.day && a.moves == b.moves) := by
  cases a; cases b; rw [Bool.eq_iff_iff]; simp [and_assoc]


theorem oneCellC4 : ∀ x : C4, ∀ u ∈ C4.vals x, u.oneCell' = true := by intro x u hu; simp [C4.vals] at hu; rcases hu with rfl | rfl | rfl | rfl <;> rfl
theorem Try.infoC4 : (Try.prog.info? 97).map (fun i => (i.zero, i.size, i.bytes)) = some (some (.agg #[.int .i64 0, .int .i64 0, .int .i64 0, .int .i64 0]), 4, 32) := by kernel_rfl

theorem own_rowC4 {w : World} {base : Nat} {e : TypeId} {g n c : Nat} {xs : List Value} (h : w.ownsRow base e 4 (.slice (some ⟨g, 0, none⟩) n c) n xs) {k : Nat} (hk : k < n) :
    (∃ u, w.cell? ⟨g, k * 4, none⟩ = some u) ∧ (∃ u, w.cell? ⟨g, k * 4 + 1, none⟩ = some u) ∧ (∃ u, w.cell? ⟨g, k * 4 + 2, none⟩ = some u) ∧ (∃ u, w.cell? ⟨g, k * 4 + 3, none⟩ = some u) ∧ w.frozen? ⟨g, k * 4, none⟩ = false ∧ w.frozen? ⟨g, k * 4 + 1, none⟩ = false ∧ w.frozen? ⟨g, k * 4 + 2, none⟩ = false ∧ w.frozen? ⟨g, k * 4 + 3, none⟩ = false :=
  ⟨(own_cellAt h (k * 4) (by omega)).1, (own_cellAt h (k * 4 + 1) (by omega)).1, (own_cellAt h (k * 4 + 2) (by omega)).1, (own_cellAt h (k * 4 + 3) (by omega)).1, (own_cellAt h (k * 4) (by omega)).2, (own_cellAt h (k * 4 + 1) (by omega)).2, (own_cellAt h (k * 4 + 2) (by omega)).2, (own_cellAt h (k * 4 + 3) (by omega)).2⟩







theorem cells_i64_C4 : Try.prog.cellsOf 2 = 1 := by kernel_rfl

end Go.Proofs.Ytbboihodikhhkaa
