/- The sizes of what MarkPresent returns. No condition. -/
import Derived.Test.YtbboihodikhhkaaMkG
namespace Go.Proofs.Ytbboihodikhhkaa
theorem sheetsOk_small {z : List (Int × List Int)} (h : sheetsOk z = true) : z.length ≤ 1048576 ∧ ∀ x ∈ z, x.2.length ≤ 1048576 := by
  refine ⟨Nat.le_trans (sheetsOk_len h) (by decide), fun x hx => ?_⟩
  simp only [sheetsOk, Bool.and_eq_true] at h
  have := (sheetsGo_rises z none h.1).2.2 x hx
  simp only [okH, Bool.and_eq_true, decide_eq_true_eq] at this
  omega
theorem markF_small (z : List (Int × List Int)) (day n : Int) : (markF z day n).1.length ≤ 1048576 ∧ ∀ x ∈ (markF z day n).1, x.2.length ≤ 1048576 := by
  have e : ([] : List (Int × List Int)).length ≤ 1048576 ∧ ∀ x ∈ ([] : List (Int × List Int)), x.2.length ≤ 1048576 := ⟨by simp, fun x hx => by cases hx⟩
  unfold markF
  split
  · split
    · split
      · exact e
      · split
        · next h => exact sheetsOk_small h
        · exact e
    · exact e
  · exact e
end Go.Proofs.Ytbboihodikhhkaa
