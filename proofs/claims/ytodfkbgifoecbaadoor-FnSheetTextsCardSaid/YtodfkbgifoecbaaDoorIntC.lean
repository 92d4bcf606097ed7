/- Lists of numbers: bounds, sizes. No condition. -/
import Derived.Test.YtodfkbgifoecbaaDoorIntB
import Derived.Test.YtodfkbgifoecbaaDoorFrame
namespace Go.Proofs.YtodfkbgifoecbaaDoor
open Go.RowKit
theorem cells_slI : Tryd.prog.cellsOf 22 = 1 := by kernel_rfl
def numsB (zs : List Int) (m : Int) : Bool := decide ((zs.length : Int) ≤ m) && incGo 1 1000000 none zs
set_option maxHeartbeats 400000 in
theorem areNumbers_any (v : Value) (zs : List Int) (m : Int) (w : World) (lo hi : Nat) (hz : SlI w lo hi v zs) :
    Calls Tryd.prog 59 #[v, .int .i64 m] w fun e w' => e = .returned (.bool (numsB zs m)) ∧ w = w' := by
  obtain ⟨A, c, rfl, hc1, hc2⟩ := hz.form
  go_enter Tryd.func59, Tryd.ntmps59
  go_wp2_with (first | (go_at_call 76; refine (few_any _ _ _).mono ?_; rintro e w' ⟨rfl, rfl⟩) | (go_at_call 77; refine (increasing_any _ zs _ _ _ lo hi hz).mono ?_; rintro e w' ⟨rfl, rfl⟩))
  all_goals go_ret
  all_goals exact ⟨ret_bool (by simp [numsB]; omega), rfl⟩

theorem szInt64S_any (v : Value) (cs : List Int) (l : Int) (w : World) {lo hi : Nat} (h : SlI w lo hi v cs) (hl : 0 ≤ l) (hl1 : l ≤ 1048576) :
    Calls Tryd.prog 30 #[v, .int .i64 l] w fun e w' => e = .returned (.int .i64 (if l - cs.length < 0 then -1 else l - cs.length)) ∧ w = w' := by
  obtain ⟨A, c, rfl, hc1, hc2⟩ := h.form
  by_cases hb : l - cs.length < 0
  · go_enter Tryd.func30, Tryd.ntmps30
    go_wp2
    go_ret
    exact ⟨rfl, rfl⟩
  · go_enter Tryd.func30, Tryd.ntmps30
    go_wp2
    go_ret
    exact ⟨rfl, rfl⟩
end Go.Proofs.YtodfkbgifoecbaaDoor
