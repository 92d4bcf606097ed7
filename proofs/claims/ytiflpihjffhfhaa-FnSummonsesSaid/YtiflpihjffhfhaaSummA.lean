/- Records of 5 numbers (Summons): copies, comparisons, marks, the reading of a list of them. No condition but the sizes that the law itself asks. -/
import Derived.Test.YtiflpihjffhfhaaLeaf
import Derived.Test.YtiflpihjffhfhaaFrame
namespace Go.Proofs.Ytiflpihjffhfhaa
open Go.ChangeShapes Go.WideShapes Go.ChangeAt Go.RowKit

structure S5 where
  num : Int
  sent : Int
  due : Int
  ans : Int
  answered : Int
  deriving DecidableEq

def S5.vals (c : S5) : List Value := [.int .i64 c.num, .int .i64 c.sent, .int .i64 c.due, .int .i64 c.ans, .int .i64 c.answered]
def S5.val (c : S5) : Value := .agg #[.int .i64 c.num, .int .i64 c.sent, .int .i64 c.due, .int .i64 c.ans, .int .i64 c.answered]
abbrev SlS5 (w : World) (lo hi : Nat) (v : Value) (cs : List S5) : Prop := SlR S5.vals 5 w lo hi v cs

theorem SlR.S5_at {w : World} {lo hi : Nat} {cs : List S5} {A : Option Addr} {n c k : Nat} {x : S5} (h : SlS5 w lo hi (.slice A n c) cs) (hk : cs[k]? = some x) :
    ∃ b off, A = some ⟨b, off, none⟩ ∧ lo ≤ b ∧ b < hi ∧ w.cell? ⟨b, off + k * 5, none⟩ = some (.int .i64 x.num) ∧ w.cell? ⟨b, off + k * 5 + 1, none⟩ = some (.int .i64 x.sent) ∧ w.cell? ⟨b, off + k * 5 + 2, none⟩ = some (.int .i64 x.due) ∧ w.cell? ⟨b, off + k * 5 + 3, none⟩ = some (.int .i64 x.ans) ∧ w.cell? ⟨b, off + k * 5 + 4, none⟩ = some (.int .i64 x.answered) := by
  obtain ⟨b, off, e, h1, h2, h3⟩ := h.at_ hk
  exact ⟨b, off, e, h1, h2, h3 0 _ rfl, h3 1 _ rfl, h3 2 _ rfl, h3 3 _ rfl, h3 4 _ rfl⟩
theorem own_slS5 {w : World} {base : Nat} {e : TypeId} {v : Value} {xs : List S5} (h : OwnR S5.vals 5 w base e v xs) : SlS5 w base w.heap.size v xs := own_slR (f := S5.vals) (s := 5) (fun _ => rfl) h


theorem S5.eq_iff (a b : S5) : decide (a = b) = (a.num == b.num && a.sent == b.sent && a.due == b.due && a.ans == b.ans && a.answered == b.answered) := by
  cases a; cases b; rw [Bool.eq_iff_iff]; simp [and_assoc]


theorem Try.infoS5 : (Try.prog.info? 108).map (fun i => (i.zero, i.size, i.bytes)) = some (some (.agg #[.int .i64 0, .int .i64 0, .int .i64 0, .int .i64 0, .int .i64 0]), 5, 40) := by kernel_rfl

theorem own_rowS5 {w : World} {base : Nat} {e : TypeId} {g n c : Nat} {xs : List Value} (h : w.ownsRow base e 5 (.slice (some ⟨g, 0, none⟩) n c) n xs) {k : Nat} (hk : k < n) :
    (∃ u, w.cell? ⟨g, k * 5, none⟩ = some u) ∧ (∃ u, w.cell? ⟨g, k * 5 + 1, none⟩ = some u) ∧ (∃ u, w.cell? ⟨g, k * 5 + 2, none⟩ = some u) ∧ (∃ u, w.cell? ⟨g, k * 5 + 3, none⟩ = some u) ∧ (∃ u, w.cell? ⟨g, k * 5 + 4, none⟩ = some u) ∧ w.frozen? ⟨g, k * 5, none⟩ = false ∧ w.frozen? ⟨g, k * 5 + 1, none⟩ = false ∧ w.frozen? ⟨g, k * 5 + 2, none⟩ = false ∧ w.frozen? ⟨g, k * 5 + 3, none⟩ = false ∧ w.frozen? ⟨g, k * 5 + 4, none⟩ = false :=
  ⟨(own_cellAt h (k * 5) (by omega)).1, (own_cellAt h (k * 5 + 1) (by omega)).1, (own_cellAt h (k * 5 + 2) (by omega)).1, (own_cellAt h (k * 5 + 3) (by omega)).1, (own_cellAt h (k * 5 + 4) (by omega)).1, (own_cellAt h (k * 5) (by omega)).2, (own_cellAt h (k * 5 + 1) (by omega)).2, (own_cellAt h (k * 5 + 2) (by omega)).2, (own_cellAt h (k * 5 + 3) (by omega)).2, (own_cellAt h (k * 5 + 4) (by omega)).2⟩


theorem oneCellS5 : ∀ x : S5, ∀ u ∈ S5.vals x, u.oneCell' = true := by intro x u hu; simp [S5.vals] at hu; rcases hu with rfl | rfl | rfl | rfl | rfl <;> rfl
set_option maxHeartbeats 1000000 in
theorem cloneS5_any (v : Value) (cs : List S5) (w : World) (lo : Nat) (h : SlS5 w lo w.heap.size v cs) (hn : cs.length ≤ 2097152) :
    Calls Try.prog 132 #[v] w fun e w' => ∃ v', e = .returned v' ∧ OwnR S5.vals 5 w' w.heap.size 108 v' cs ∧ Below w.heap.size w w' := by
  obtain ⟨i0, hi, hz0, hz1, hz2⟩ := info_parts Try.infoS5
  obtain ⟨A, c, rfl, hc1, hc2⟩ := h.form
  go_enter Try.func132, Try.ntmps132
  go_wp2_with (first | (at_make; refine wpList_make_own _ rfl _ _ 45 rfl w.heap.size 108 i0 _ 5 Try.underlying45 hi hz0 hz1 _ _ _ cs.length rfl rfl rfl ?c2 ?c3 ?c4 ?_))
  case c2 => rw [hz2]; omega
  case c3 => unfold maxLen; omega
  case c4 => exact Nat.le_refl _
  intro w1 hown hgrow
  have hb1 : Below w.heap.size w w1 := (Below.refl _ _).grown hgrow (Nat.le_refl _) (by intro k h; cases h)
  have h1 := h.below hb1 (Nat.le_refl _)
  have o1 : OwnR S5.vals 5 w1 w.heap.size 108 (.slice (some ⟨w.heap.size, 0, none⟩) 0 cs.length) ([] : List S5) := hown
  clear hgrow hi hz0 hz1 hz2 i0 hown
  have hsz := hb1.size
  go_wp2_with (at_builtin; refine wpList_append_sl (f := S5.vals) (s := 5) _ (fun _ => rfl) oneCellS5 rfl _ _ 45 rfl w.heap.size 108 Try.infoS5 Try.underlying45 rfl (by decide) _ ([] : List S5) cs _ _ _ rfl o1 rfl h1 (by simp; omega) (by simp; omega) hsz ?_)
  intro v' w' o2 hbel _
  go_wp2_with fail
  go_ret
  exact ⟨v', rfl, o2, hbel _ _ hb1 (Nat.le_refl _)⟩





theorem cells_i64_S5 : Try.prog.cellsOf 2 = 1 := by kernel_rfl

end Go.Proofs.Ytiflpihjffhfhaa
