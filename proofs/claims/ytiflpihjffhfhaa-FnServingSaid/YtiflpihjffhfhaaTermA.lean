/- Records of 3 numbers (Term): copies, comparisons, marks, the reading of a list of them. No condition but the sizes that the law itself asks. -/
import Derived.Test.YtiflpihjffhfhaaLeaf
import Derived.Test.YtiflpihjffhfhaaFrame
namespace Go.Proofs.Ytiflpihjffhfhaa
open Go.ChangeShapes Go.WideShapes Go.ChangeAt Go.RowKit

structure T3 where
  num : Int
  beg : Int
  fin : Int
  deriving DecidableEq

def T3.vals (c : T3) : List Value := [.int .i64 c.num, .int .i64 c.beg, .int .i64 c.fin]
def T3.val (c : T3) : Value := .agg #[.int .i64 c.num, .int .i64 c.beg, .int .i64 c.fin]
abbrev SlT3 (w : World) (lo hi : Nat) (v : Value) (cs : List T3) : Prop := SlR T3.vals 3 w lo hi v cs

theorem SlR.T3_at {w : World} {lo hi : Nat} {cs : List T3} {A : Option Addr} {n c k : Nat} {x : T3} (h : SlT3 w lo hi (.slice A n c) cs) (hk : cs[k]? = some x) :
    ∃ b off, A = some ⟨b, off, none⟩ ∧ lo ≤ b ∧ b < hi ∧ w.cell? ⟨b, off + k * 3, none⟩ = some (.int .i64 x.num) ∧ w.cell? ⟨b, off + k * 3 + 1, none⟩ = some (.int .i64 x.beg) ∧ w.cell? ⟨b, off + k * 3 + 2, none⟩ = some (.int .i64 x.fin) := by
  obtain ⟨b, off, e, h1, h2, h3⟩ := h.at_ hk
  exact ⟨b, off, e, h1, h2, h3 0 _ rfl, h3 1 _ rfl, h3 2 _ rfl⟩
theorem own_slT3 {w : World} {base : Nat} {e : TypeId} {v : Value} {xs : List T3} (h : OwnR T3.vals 3 w base e v xs) : SlT3 w base w.heap.size v xs := own_slR (f := T3.vals) (s := 3) (fun _ => rfl) h


theorem T3.eq_iff (a b : T3) : decide (a = b) = (a.num == b.num && a.beg == b.beg && a.fin == b.fin) := by
  cases a; cases b; rw [Bool.eq_iff_iff]; simp [and_assoc]


theorem Try.infoT3 : (Try.prog.info? 65).map (fun i => (i.zero, i.size, i.bytes)) = some (some (.agg #[.int .i64 0, .int .i64 0, .int .i64 0]), 3, 24) := by kernel_rfl

theorem own_rowT3 {w : World} {base : Nat} {e : TypeId} {g n c : Nat} {xs : List Value} (h : w.ownsRow base e 3 (.slice (some ⟨g, 0, none⟩) n c) n xs) {k : Nat} (hk : k < n) :
    (∃ u, w.cell? ⟨g, k * 3, none⟩ = some u) ∧ (∃ u, w.cell? ⟨g, k * 3 + 1, none⟩ = some u) ∧ (∃ u, w.cell? ⟨g, k * 3 + 2, none⟩ = some u) ∧ w.frozen? ⟨g, k * 3, none⟩ = false ∧ w.frozen? ⟨g, k * 3 + 1, none⟩ = false ∧ w.frozen? ⟨g, k * 3 + 2, none⟩ = false :=
  ⟨(own_cellAt h (k * 3) (by omega)).1, (own_cellAt h (k * 3 + 1) (by omega)).1, (own_cellAt h (k * 3 + 2) (by omega)).1, (own_cellAt h (k * 3) (by omega)).2, (own_cellAt h (k * 3 + 1) (by omega)).2, (own_cellAt h (k * 3 + 2) (by omega)).2⟩


theorem oneCellT3 : ∀ x : T3, ∀ u ∈ T3.vals x, u.oneCell' = true := by intro x u hu; simp [T3.vals] at hu; rcases hu with rfl | rfl | rfl <;> rfl
set_option maxHeartbeats 1000000 in
theorem cloneT3_any (v : Value) (cs : List T3) (w : World) (lo : Nat) (h : SlT3 w lo w.heap.size v cs) (hn : cs.length ≤ 2097152) :
    Calls Try.prog 145 #[v] w fun e w' => ∃ v', e = .returned v' ∧ OwnR T3.vals 3 w' w.heap.size 65 v' cs ∧ Below w.heap.size w w' := by
  obtain ⟨i0, hi, hz0, hz1, hz2⟩ := info_parts Try.infoT3
  obtain ⟨A, c, rfl, hc1, hc2⟩ := h.form
  go_enter Try.func145, Try.ntmps145
  go_wp2_with (first | (at_make; refine wpList_make_own _ rfl _ _ 59 rfl w.heap.size 65 i0 _ 3 Try.underlying59 hi hz0 hz1 _ _ _ cs.length rfl rfl rfl ?c2 ?c3 ?c4 ?_))
  case c2 => rw [hz2]; omega
  case c3 => unfold maxLen; omega
  case c4 => exact Nat.le_refl _
  intro w1 hown hgrow
  have hb1 : Below w.heap.size w w1 := (Below.refl _ _).grown hgrow (Nat.le_refl _) (by intro k h; cases h)
  have h1 := h.below hb1 (Nat.le_refl _)
  have o1 : OwnR T3.vals 3 w1 w.heap.size 65 (.slice (some ⟨w.heap.size, 0, none⟩) 0 cs.length) ([] : List T3) := hown
  clear hgrow hi hz0 hz1 hz2 i0 hown
  have hsz := hb1.size
  go_wp2_with (at_builtin; refine wpList_append_sl (f := T3.vals) (s := 3) _ (fun _ => rfl) oneCellT3 rfl _ _ 59 rfl w.heap.size 65 Try.infoT3 Try.underlying59 rfl (by decide) _ ([] : List T3) cs _ _ _ rfl o1 rfl h1 (by simp; omega) (by simp; omega) hsz ?_)
  intro v' w' o2 hbel _
  go_wp2_with fail
  go_ret
  exact ⟨v', rfl, o2, hbel _ _ hb1 (Nat.le_refl _)⟩





theorem cells_i64_T3 : Try.prog.cellsOf 2 = 1 := by kernel_rfl

end Go.Proofs.Ytiflpihjffhfhaa
