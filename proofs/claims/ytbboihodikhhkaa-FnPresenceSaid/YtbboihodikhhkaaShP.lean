/- Plain lemmas: runs are no longer than days; the most present person was there as often as anybody. No condition; nothing of the program is named but the functions that its walks compute. -/
import Derived.Test.YtbboihodikhhkaaShQ
namespace Go.Proofs.Ytbboihodikhhkaa

theorem daysOf_cons (x : Int × List Int) (t : List (Int × List Int)) (n : Int) : (daysOf (x :: t) n).length = (if hasB n x.2 = true then 1 else 0) + (daysOf t n).length := by
  unfold daysOf
  by_cases h : hasB n x.2 = true
  · simp [h]; omega
  · simp [h]
theorem run_bounds (n : Int) : ∀ (z : List (Int × List Int)) (m r : Int), 0 ≤ r → r ≤ m → m ≤ runGo n m r z ∧ runGo n m r z ≤ m + (daysOf z n).length ∧ (0 < (daysOf z n).length → 1 ≤ runGo n m r z)
  | [], m, r, h0, h1 => by simp [runGo, daysOf]
  | x :: t, m, r, h0, h1 => by
    rw [daysOf_cons, runGo]
    by_cases h : hasB n x.2 = true
    · have e : runStep n r x.2 = r + 1 := by simp [runStep, h]
      rw [e, if_pos h]
      obtain ⟨a, b, _⟩ := run_bounds n t (max m (r + 1)) (r + 1) (by omega) (by omega)
      refine ⟨by omega, by omega, fun _ => by omega⟩
    · have e : runStep n r x.2 = 0 := by simp [runStep, h]
      rw [e, if_neg h]
      obtain ⟨a, b, c⟩ := run_bounds n t (max m 0) 0 (by omega) (by omega)
      refine ⟨by omega, by omega, fun h => c (by omega)⟩
theorem pres_law (z : List (Int × List Int)) (n : Int) : ∃ (l c : Int) (ds : List Int), longestF z n = (l, c) ∧ daysF z n = (ds, c) ∧ ds.length ≤ 15 ∧ (c ≠ 0 ∨ (c = 0 ∧ l ≤ (ds.length : Int) ∧ ((0 < l ∧ 0 < (ds.length : Int)) ∨ (¬ 0 < l ∧ ¬ 0 < (ds.length : Int))))) := by
  have hl := daysF_len z n
  unfold longestF daysF at *
  by_cases h : sheetsOk z = true
  · rw [if_pos h] at hl ⊢
    rw [if_pos h]
    obtain ⟨a, b, c⟩ := run_bounds n z 0 0 (by omega) (by omega)
    refine ⟨_, _, _, rfl, rfl, hl, .inr ⟨rfl, by omega, ?_⟩⟩
    by_cases q : 0 < (daysOf z n).length
    · exact .inl ⟨by have := c q; omega, by omega⟩
    · exact .inr ⟨by omega, by omega⟩
  · rw [if_neg h, if_neg h]
    exact ⟨_, _, _, rfl, rfl, by simp, .inl (by omega)⟩
theorem most_law (z : List (Int × List Int)) : ∃ m k c : Int, mostF z = (m, k, c) ∧ (c ≠ 0 ∨ (c = 0 ∧ ∀ q, ∃ ds, daysF z q = (ds, 0) ∧ ds.length ≤ 15 ∧ (ds.length : Int) ≤ k ∧ (q = m → (ds.length : Int) = k))) := by
  by_cases h : sheetsOk z = true
  · by_cases he : ∃ y, 0 < cntOf z y
    · obtain ⟨y, hy⟩ := he
      obtain ⟨e, e1, e2⟩ := most_spec h hy
      refine ⟨_, _, _, e, .inr ⟨rfl, fun q => ⟨daysOf z q, by rw [daysF, if_pos h], Nat.le_trans (daysOf_len z q) (sheetsOk_len h), ?_, ?_⟩⟩⟩
      · have h3 := e2 q
        have h4 : cntOf z q = (daysOf z q).length := rfl
        omega
      · intro hq
        rw [hq, e1]; rfl
    · refine ⟨_, _, _, most_none h (fun x => ?_), .inl (by omega)⟩
      rw [cnt_ok h]
      by_cases q : cntOf z x = 0
      · exact q
      · exact absurd ⟨x, by omega⟩ he
  · exact ⟨0, 0, 1, by rw [mostF, if_neg h], .inl (by omega)⟩
end Go.Proofs.Ytbboihodikhhkaa
