/- Contracts of the small functions that test a number: within, few, isDay, isNumber and the reference's own. No condition. -/
import Derived.Test.YtodfkbgifoecbaaDoorRows
import Derived.Test.YtodfkbgifoecbaaDoorBase
namespace Go.Proofs.YtodfkbgifoecbaaDoor
open Go.RowKit

def inB (a b c : Int) : Bool := decide (b ≤ a) && decide (a ≤ c)
theorem inB_iff {a b c : Int} : inB a b c = true ↔ b ≤ a ∧ a ≤ c := by simp [inB]

set_option maxHeartbeats 400000 in
theorem within_any (a b c : Int) (w : World) :
    Calls Tryd.prog 75 #[.int .i64 a, .int .i64 b, .int .i64 c] w fun e w' => e = .returned (.bool (inB a b c)) ∧ w = w' := by
  go_enter Tryd.func75, Tryd.ntmps75
  go_wp2
  all_goals go_ret
  all_goals exact ⟨ret_bool (by rw [Bool.eq_iff_iff]; simp [inB]; omega), rfl⟩
set_option maxHeartbeats 400000 in
theorem few_any (a b : Int) (w : World) :
    Calls Tryd.prog 76 #[.int .i64 a, .int .i64 b] w fun e w' => e = .returned (.bool (decide (a ≤ b))) ∧ w = w' := by
  go_enter Tryd.func76, Tryd.ntmps76
  go_wp2
  all_goals go_ret
  all_goals exact ⟨by simp [*], rfl⟩
set_option maxHeartbeats 400000 in
theorem isDay_any (a : Int) (w : World) :
    Calls Tryd.prog 58 #[.int .i64 a] w fun e w' => e = .returned (.bool (inB a 0 20000)) ∧ w = w' := by
  go_enter Tryd.func58, Tryd.ntmps58
  go_wp2_with (go_at_call 75; refine (within_any _ _ _ _).mono ?_; rintro e w' ⟨rfl, rfl⟩)
  go_ret
  exact ⟨rfl, rfl⟩
set_option maxHeartbeats 400000 in
theorem l01In_any (a b c : Int) (w : World) :
    Calls Tryd.prog 54 #[.int .i64 a, .int .i64 b, .int .i64 c] w fun e w' => e = .returned (.bool (inB a b c)) ∧ w = w' := by
  go_enter Tryd.func54, Tryd.ntmps54
  go_wp2
  all_goals go_ret
  all_goals exact ⟨ret_bool (by rw [Bool.eq_iff_iff]; simp [inB]; omega), rfl⟩
set_option maxHeartbeats 400000 in
theorem l02Is_any (a : Int) (w : World) :
    Calls Tryd.prog 55 #[.int .i64 a] w fun e w' => e = .returned (.bool (inB a 0 20000)) ∧ w = w' := by
  go_enter Tryd.func55, Tryd.ntmps55
  go_wp2_with (go_at_call 54; refine (l01In_any _ _ _ _).mono ?_; rintro e w' ⟨rfl, rfl⟩)
  go_ret
  exact ⟨rfl, rfl⟩
theorem l02Is_as {a : Int} {r : Bool} (h : inB a 0 20000 = r) (w : World) :
    Calls Tryd.prog 55 #[.int .i64 a] w fun e w' => e = .returned (.bool r) ∧ w = w' := h ▸ l02Is_any a w
theorem l01In_as {a b c : Int} {r : Bool} (h : inB a b c = r) (w : World) :
    Calls Tryd.prog 54 #[.int .i64 a, .int .i64 b, .int .i64 c] w fun e w' => e = .returned (.bool r) ∧ w = w' := h ▸ l01In_any a b c w
theorem within_as {a b c : Int} {r : Bool} (h : inB a b c = r) (w : World) :
    Calls Tryd.prog 75 #[.int .i64 a, .int .i64 b, .int .i64 c] w fun e w' => e = .returned (.bool r) ∧ w = w' := h ▸ within_any a b c w
end Go.Proofs.YtodfkbgifoecbaaDoor
