/- Lists and sheets as texts: the program's own functions. What they ask: the package-level variables as the program lays them. -/
import Derived.Test.YtodfkbgifoecbaaGreatDoorTxE
import Derived.Deep.RegionHeld3
namespace Go.Proofs.YtodfkbgifoecbaaGreatDoor
open Go.RowKit
open Go.Lib hiding intOf
attribute [local go_sem ↓] Go.wp_at_zero Go.wp_at_succ
theorem s2_cellsT {W : World} {T : Nat} {ty : TypeId} {x y : Value} (b : Blk W T ty #[x, y]) : W.cell? ⟨T, 0, none⟩ = some x ∧ W.cell? ⟨T, 1, none⟩ = some y := ⟨b.cell 0, b.cell 1⟩
end Go.Proofs.YtodfkbgifoecbaaGreatDoor
