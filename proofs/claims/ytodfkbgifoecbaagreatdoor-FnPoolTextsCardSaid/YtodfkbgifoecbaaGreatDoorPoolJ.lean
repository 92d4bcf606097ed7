/- Draws from a pool: the state, the place, what is left; contracts of next and below. No condition. -/
import Derived.Test.YtodfkbgifoecbaaGreatDoorPoolI
namespace Go.Proofs.YtodfkbgifoecbaaGreatDoor
open Go.RowKit

def nextS (s : Int) : Int := (48271 * s) % 2147483647
theorem nextS_in (s : Int) : 0 ≤ nextS s ∧ nextS s ≤ 2147483646 := by unfold nextS; omega
def leftOf (nums d : List Int) : List Int := nums.filter fun x => !hasB x d
def pickS (s : Int) (n : Nat) : Nat := (nextS s * (n : Int) / 2147483647).toNat
theorem pickS_lt (s : Int) {n : Nat} (h : 0 < n) : pickS s n < n ∧ nextS s * (n : Int) / 2147483647 = (pickS s n : Int) := by
  have h1 := nextS_in s
  unfold pickS
  have h2 : 0 ≤ nextS s * (n : Int) := Int.mul_nonneg h1.1 (by omega)
  have h3 : nextS s * (n : Int) ≤ 2147483646 * (n : Int) := Int.mul_le_mul_of_nonneg_right h1.2 (by omega)
  omega
/-- One draw after the other: the drawn ones and the state behind. -/
def drawGo (nums : List Int) : Nat → List Int → Int → List Int × Int
  | 0, d, s => (d, s)
  | k + 1, d, s => drawGo nums k (d ++ [((leftOf nums d)[pickS s (leftOf nums d).length]?).getD 0]) (nextS s)
theorem leftOf_snoc (nums d : List Int) (x : Int) : leftOf nums (d ++ [x]) = (leftOf nums d).filter fun y => y != x := by
  unfold leftOf
  rw [List.filter_filter]
  refine List.filter_congr fun y _ => ?_
  have e : hasB y (d ++ [x]) = (hasB y d || y == x) := by
    rw [Bool.eq_iff_iff, mem_hasB]
    simp [mem_hasB]
  rw [e]
  cases hasB y d <;> cases h : y == x <;> simp_all [bne]
theorem leftOf_step {nums d : List Int} (hn : nums.Nodup) {x : Int} (hx : x ∈ leftOf nums d) : (leftOf nums (d ++ [x])).length + 1 = (leftOf nums d).length := by
  rw [leftOf_snoc]
  exact filter_ne_len (hn.filter _) hx
theorem leftOf_pick {nums d : List Int} {s : Int} (h : 0 < (leftOf nums d).length) : ∃ x, (leftOf nums d)[pickS s (leftOf nums d).length]? = some x ∧ x ∈ leftOf nums d := by
  have h1 := (pickS_lt s h).1
  obtain ⟨x, hx⟩ := some_at h1
  exact ⟨x, hx, List.mem_of_getElem? hx⟩

set_option maxHeartbeats 1000000 in
theorem l03Next_any (s : Int) (w : World) (hs : 0 ≤ s ∧ s ≤ 2147483646) :
    Calls Tryz.prog 73 #[.int .i64 s] w fun e w' => e = .returned (.int .i64 (nextS s)) ∧ w = w' := by
  have h1 : (48271 * s).tmod 2147483647 = nextS s := by unfold nextS; rw [Int.tmod_eq_emod_of_nonneg (by omega)]
  have h2 : (s * 48271).tmod 2147483647 = nextS s := by rw [Int.mul_comm]; exact h1
  go_enter Tryz.func73, Tryz.ntmps73
  go_wp2_with fail
  go_ret
  exact ⟨ret_int (by unfold nextS; omega), rfl⟩
end Go.Proofs.YtodfkbgifoecbaaGreatDoor
