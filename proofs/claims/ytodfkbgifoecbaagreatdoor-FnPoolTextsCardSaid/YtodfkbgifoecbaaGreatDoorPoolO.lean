/- TakeFrom: the program's and the reference's answer the same function. No condition but the sizes that the law itself asks. -/
import Derived.Test.YtodfkbgifoecbaaGreatDoorPoolN
namespace Go.Proofs.YtodfkbgifoecbaaGreatDoor
open Go.RowKit
attribute [local go_sem ↓] Go.wp_at_zero Go.wp_at_succ

def takeF (p : P3) (k : Int) : P3 × List Int × Int :=
  if poolOk p = true then if k < 0 then (⟨[], [], 0⟩, [], 2) else if ((leftF p).length : Int) < k then (⟨[], [], 0⟩, [], 3) else (⟨p.nums, (drawGo p.nums k.toNat p.drawn p.st).1, (drawGo p.nums k.toNat p.drawn p.st).2⟩, (drawGo p.nums k.toNat p.drawn p.st).1.drop p.drawn.length, 0) else (⟨[], [], 0⟩, [], 1)
theorem drawGo_len (nums : List Int) (k : Nat) (d : List Int) (s : Int) : (drawGo nums k d s).1.length = d.length + k := by
  obtain ⟨r, h1, h2⟩ := drawGo_app nums k d s
  rw [h1, List.length_append, h2]
theorem takeF_len (p : P3) (k : Int) : (takeF p k).1.nums.length ≤ 60 ∧ (takeF p k).1.drawn.length ≤ 60 ∧ (takeF p k).2.1.length ≤ 60 := by
  unfold takeF
  split
  · next h =>
    have h1 := poolOk_parts h
    have h2 := leftF_length h
    split
    · exact ⟨Nat.zero_le _, Nat.zero_le _, Nat.zero_le _⟩
    · split
      · exact ⟨Nat.zero_le _, Nat.zero_le _, Nat.zero_le _⟩
      · have h3 := drawGo_len p.nums k.toNat p.drawn p.st
        refine ⟨h1.2.2.2.1, ?_, ?_⟩
        · show (drawGo p.nums k.toNat p.drawn p.st).1.length ≤ 60
          omega
        · show ((drawGo p.nums k.toNat p.drawn p.st).1.drop p.drawn.length).length ≤ 60
          rw [List.length_drop]; omega
  · exact ⟨Nat.zero_le _, Nat.zero_le _, Nat.zero_le _⟩

end Go.Proofs.YtodfkbgifoecbaaGreatDoor
