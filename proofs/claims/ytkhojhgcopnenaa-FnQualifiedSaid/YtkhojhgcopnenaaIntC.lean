/- Lists of numbers: bounds, sizes. No condition. -/
import Derived.Test.YtkhojhgcopnenaaIntB
import Derived.Test.YtkhojhgcopnenaaFrame
namespace Go.Proofs.Ytkhojhgcopnenaa
open Go.RowKit
theorem cells_slI : Try.prog.cellsOf 22 = 1 := by kernel_rfl

theorem szInt64S_any (v : Value) (cs : List Int) (l : Int) (w : World) {lo hi : Nat} (h : SlI w lo hi v cs) (hl : 0 ≤ l) (hl1 : l ≤ 1048576) :
    Calls Try.prog 49 #[v, .int .i64 l] w fun e w' => e = .returned (.int .i64 (if l - cs.length < 0 then -1 else l - cs.length)) ∧ w = w' := by
  obtain ⟨A, c, rfl, hc1, hc2⟩ := h.form
  by_cases hb : l - cs.length < 0
  · go_enter Try.func49, Try.ntmps49
    go_wp2
    go_ret
    exact ⟨rfl, rfl⟩
  · go_enter Try.func49, Try.ntmps49
    go_wp2
    go_ret
    exact ⟨rfl, rfl⟩
end Go.Proofs.Ytkhojhgcopnenaa
