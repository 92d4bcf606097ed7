/- Plain law of crowded days. No condition. -/
import Derived.Test.YtiflpihjffhfhaaCallK
import Derived.Test.YtiflpihjffhfhaaCallP
namespace Go.Proofs.Ytiflpihjffhfhaa
theorem crowd_law {cs : List C4} {r : Int} (h : (crowdF cs r).2 = 0) : ∀ d ∈ (crowdF cs r).1, calledOnF cs d = (onDay cs d, 0) ∧ r < ((onDay cs d).length : Int) := by
  unfold crowdF at h ⊢
  split at h
  · rename_i h1
    rw [if_pos h1]
    split at h
    · rename_i h2
      rw [if_pos h2]
      intro d hd
      have hm := ((insAll_spec (pickC (crowdP cs r) cs) [] List.Pairwise.nil).2 d).1 hd
      simp [pickC] at hm
      obtain ⟨t, ⟨ht, hp⟩, rfl⟩ := hm
      have hb := C4.bounds ((callsOk_all h1).1 t ht)
      exact ⟨calledOnF_ok h1 (inB_iff.2 hb.1), by simpa [crowdP] using hp⟩
    · cases h
  · cases h
end Go.Proofs.Ytiflpihjffhfhaa
