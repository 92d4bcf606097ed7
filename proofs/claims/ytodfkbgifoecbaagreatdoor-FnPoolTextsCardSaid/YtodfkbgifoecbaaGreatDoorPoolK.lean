/- The program's draws from a pool: contract of take. No condition but the sizes that the law itself asks. -/
import Derived.Test.YtodfkbgifoecbaaGreatDoorPoolJ
import Derived.Deep.RegionLaw
namespace Go.Proofs.YtodfkbgifoecbaaGreatDoor
open Go.RowKit
attribute [local go_sem ↓] Go.wp_at_zero Go.wp_at_succ

theorem own_ne_blk {α : Type} {f : α → List Value} {s : Nat} {w : World} {base O : Nat} {e T : TypeId} {v : Value} {xs : List α} {cs : Array Value} (h : OwnR f s w base e v xs) (b : Blk w O T cs) (hT : T ≠ e) : ∀ g, v.ownBlock = some g → g ≠ O := by
  intro g hg e1
  subst e1
  rcases (show _ ∨ _ from And.right h) with ⟨h2, _⟩ | ⟨g', cap, cur, rfl, h3, h4, r⟩
  · subst h2; cases hg
  · have e2 : g' = g := Option.some.inj hg
    subst e2
    have b' : w.heap[g']? = _ := b
    rw [b'] at h4
    injection h4 with h4
    injection h4 with _ h5
    exact hT h5

theorem le_step {j k a b : Nat} (h : j < k) (h1 : k - j ≤ b) (h2 : a + 1 = b) : k - (j + 1) ≤ a := by omega
theorem meas_dec {j k : Nat} (h : j < k) : k - (intOf (.int .i64 ((j : Int) + 1))).toNat < k - (intOf (.int .i64 (j : Int))).toNat := by
  show k - ((j : Int) + 1).toNat < k - (j : Int).toNat
  omega
theorem drawGo_step {nums d : List Int} {s x : Int} {j k : Nat} (h : j < k) (hx : (leftOf nums d)[pickS s (leftOf nums d).length]? = some x) : drawGo nums (k - j) d s = drawGo nums (k - (j + 1)) (d ++ [x]) (nextS s) := by
  obtain ⟨m, hm⟩ : ∃ m, k - j = m + 1 := ⟨k - j - 1, by omega⟩
  have hm2 : k - (j + 1) = m := by omega
  rw [hm, hm2, drawGo, hx]; rfl

end Go.Proofs.YtodfkbgifoecbaaGreatDoor
