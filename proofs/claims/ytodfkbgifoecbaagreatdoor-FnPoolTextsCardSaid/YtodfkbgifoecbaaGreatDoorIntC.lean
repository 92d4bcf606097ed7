/- Lists of numbers: bounds, sizes. No condition. -/
import Derived.Test.YtodfkbgifoecbaaGreatDoorIntB
import Derived.Test.YtodfkbgifoecbaaGreatDoorFrame
namespace Go.Proofs.YtodfkbgifoecbaaGreatDoor
open Go.RowKit
theorem cells_slI : Tryz.prog.cellsOf 24 = 1 := by kernel_rfl
def numsB (zs : List Int) (m : Int) : Bool := decide ((zs.length : Int) ≤ m) && incGo 1 1000000 none zs
set_option maxHeartbeats 400000 in
theorem areNumbers_any (v : Value) (zs : List Int) (m : Int) (w : World) (lo hi : Nat) (hz : SlI w lo hi v zs) :
    Calls Tryz.prog 30 #[v, .int .i64 m] w fun e w' => e = .returned (.bool (numsB zs m)) ∧ w = w' := by
  obtain ⟨A, c, rfl, hc1, hc2⟩ := hz.form
  go_enter Tryz.func30, Tryz.ntmps30
  go_wp2_with (first | (go_at_call 47; refine (few_any _ _ _).mono ?_; rintro e w' ⟨rfl, rfl⟩) | (go_at_call 48; refine (increasing_any _ zs _ _ _ lo hi hz).mono ?_; rintro e w' ⟨rfl, rfl⟩))
  all_goals go_ret
  all_goals exact ⟨ret_bool (by simp [numsB]; omega), rfl⟩

end Go.Proofs.YtodfkbgifoecbaaGreatDoor
