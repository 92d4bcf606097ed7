/- The sum of a short list. No condition. -/
import Derived.Test.YtiflpihjffhfhaaSummP
namespace Go.Proofs.Ytiflpihjffhfhaa
open Go.RowKit
theorem sumL_app : ∀ xs ys : List Int, sumL (xs ++ ys) = sumL xs + sumL ys
  | [], ys => by simp [sumL]
  | x :: t, ys => by rw [List.cons_append, sumL, sumL, sumL_app t ys]; omega
theorem sumL_nonneg : ∀ xs : List Int, (∀ x ∈ xs, 0 ≤ x) → 0 ≤ sumL xs
  | [], _ => Int.le_refl _
  | x :: t, h => by have := sumL_nonneg t (fun y hy => h y (by simp [hy])); have := h x (by simp); rw [sumL]; omega
theorem sumL_take {xs : List Int} {k : Nat} {x : Int} (hk : xs[k]? = some x) (h : ∀ x ∈ xs, 0 ≤ x) : sumL (xs.take (k + 1)) = sumL (xs.take k) + x ∧ 0 ≤ sumL (xs.take k) ∧ 0 ≤ x ∧ sumL (xs.take k) + x ≤ sumL xs := by
  have e := take_snoc hk
  have h1 := sumL_nonneg (xs.take k) (fun y hy => h y (List.mem_of_mem_take hy))
  have h2 := h x (List.mem_of_getElem? hk)
  have h3 := sumL_nonneg (xs.drop (k + 1)) (fun y hy => h y (List.mem_of_mem_drop hy))
  have h4 : sumL xs = sumL (xs.take (k + 1)) + sumL (xs.drop (k + 1)) := by rw [← sumL_app, List.take_append_drop]
  have h5 : sumL (xs.take (k + 1)) = sumL (xs.take k) + x := by rw [e, sumL_app]; simp [sumL]
  exact ⟨h5, h1, h2, by omega⟩
set_option maxHeartbeats 400000 in
theorem sum_any (v : Value) (xs : List Int) (w : World) (lo hi : Nat) (h : SlI w lo hi v xs) (h0 : ∀ x ∈ xs, 0 ≤ x) (hs : sumL xs ≤ 1000000) :
    Calls Try.prog 45 #[v] w fun e w' => e = .returned (.int .i64 (sumL xs)) ∧ w = w' := by
  obtain ⟨A, c, rfl, hc1, hc2⟩ := h.form
  have H0 := Lib.hid h0
  clear h0
  go_enter Try.func45, Try.ntmps45
  go_wp2_with fail
  go_loop [3, 4] (fun n i => ∃ k : Nat, i = .int .i64 k ∧ k ≤ xs.length ∧ n = .int .i64 (sumL (xs.take k))) (fun _ i => xs.length - (intOf i).toNat)
  case atStart => exact ⟨0, rfl, Nat.zero_le _, rfl⟩
  case round =>
    obtain ⟨k, rfl, hk, rfl⟩ := hrel
    by_cases hlt : k < xs.length
    · obtain ⟨x, hx⟩ := some_at hlt
      obtain ⟨e1, e2, e3, e4⟩ := sumL_take hx H0.out
      obtain ⟨b, off, rfl, _, hb, c0⟩ := h.int_at hx
      have E1 := Lib.hid e1
      clear hx e1
      go_wp2_with fail
      go_round
      case rel => exact ⟨k + 1, by go_num, hlt, by rw [E1.out]⟩
      case measure => simp [intOf]; omega
    · have e : sumL (xs.take k) = sumL xs := by rw [List.take_of_length_le (by omega)]
      have E := Lib.hid e
      clear e
      go_wp2_with fail
      go_ret
      exact ⟨by rw [E.out]; rfl, rfl⟩
end Go.Proofs.Ytiflpihjffhfhaa
