/- copyPool; PutBack: the program's and the reference's answer the same function. No condition but the sizes that the law itself asks. -/
import Derived.Test.YtodfkbgifoecbaaGreatDoorPoolE
namespace Go.Proofs.YtodfkbgifoecbaaGreatDoor
open Go.RowKit
attribute [local go_sem ↓] Go.wp_at_zero Go.wp_at_succ

theorem region_np {P : Program} {id : Nat} {ops : Array Oper} {b : Bool} {K : Act → World → Prop} {Q' : Exit → Act → World → Prop} {a : Act} {w : World} (h : (Code.region id ops b).wp P (Exit.then K fun _ _ _ => False) a w) : (Code.region id ops b).wp P (Exit.then K Q') a w :=
  Code.wp_mono (fun e a w h => by cases e <;> first | exact h | exact (h : False).elim) h

theorem own_rebase {α : Type} {f : α → List Value} {s : Nat} {w : World} {base g n c : Nat} {e : TypeId} {xs : List α} (h : OwnR f s w base e (.slice (some ⟨g, 0, none⟩) n c) xs) : OwnR f s w g e (.slice (some ⟨g, 0, none⟩) n c) xs := by
  refine ⟨And.left h, ?_⟩
  rcases (show _ ∨ _ from And.right h) with ⟨h2, _⟩ | ⟨g', cap, cur, e1, h3, r⟩
  · cases h2
  · have e2 := e1
    injection e2 with e2
    injection e2 with e2; injection e2 with e2
    subst e2
    exact .inr ⟨g, cap, cur, e1, Nat.le_refl _, r⟩

/-! putting back -/
def distGo : List Int → List Int → Bool
  | _, [] => true
  | seen, x :: t => !hasB x seen && distGo (seen ++ [x]) t
def allIn (d : List Int) : List Int → Bool
  | [] => true
  | x :: t => hasB x d && allIn d t
def putF (p : P3) (ns : List Int) : P3 × Int :=
  if poolOk p = true then if allIn p.drawn ns = true then if distGo [] ns = true then (⟨p.nums, p.drawn.filter fun x => !hasB x ns, p.st⟩, 0) else (⟨[], [], 0⟩, 5) else (⟨[], [], 0⟩, 4) else (⟨[], [], 0⟩, 1)
theorem putF_len (p : P3) (ns : List Int) : (putF p ns).1.nums.length ≤ p.nums.length ∧ (putF p ns).1.drawn.length ≤ p.drawn.length := by
  unfold putF
  repeat' split
  all_goals first | exact ⟨Nat.le_refl _, List.length_filter_le _ _⟩ | exact ⟨Nat.zero_le _, Nat.zero_le _⟩

end Go.Proofs.YtodfkbgifoecbaaGreatDoor
