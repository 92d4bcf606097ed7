/- Plain law of a summons that is sent; the sum of a short list. No condition. -/
import Derived.Test.YtiflpihjffhfhaaSummG
import Derived.Test.YtiflpihjffhfhaaSummP
namespace Go.Proofs.Ytiflpihjffhfhaa
open Go.RowKit
theorem send_law {hs : List Int} {cs : List S5} {n d k : Int} (h : (sendF hs cs n d k).2 = 0) : listOkS5 (sendF hs cs n d k).1 = true ∧ (pickF openP (sendF hs cs n d k).1 d).2 = 0 ∧ hasB n (pickF openP (sendF hs cs n d k).1 d).1 = true ∧ (sendF hs cs n d k).1.length = cs.length + 1 := by
  unfold sendF at h ⊢
  split at h
  · rename_i h1
    rw [if_pos h1]
    split at h
    · rename_i h2
      rw [if_pos h2]
      split at h
      · rename_i h3
        rw [if_pos h3]
        split at h
        · rename_i h4
          rw [if_pos h4]
          simp only [Bool.and_eq_true] at h2
          refine ⟨h4, ?_⟩
          rw [pickF_ok h4 h2.1.2]
          refine ⟨rfl, ?_, S5.ins_len _ _⟩
          exact mem_pick (x := newS n d (nextF' hs (d + k)).1) (by simp [S5.ins]) (by simp [openP, newS])
        · cases h
      · rename_i h3; exact absurd h h3
    · cases h
  · cases h
end Go.Proofs.Ytiflpihjffhfhaa
