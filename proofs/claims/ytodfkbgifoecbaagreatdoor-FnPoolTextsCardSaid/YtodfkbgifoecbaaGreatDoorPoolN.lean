/- Whether two lists of numbers are the same; IsReplay. No condition but the sizes that the law itself asks. -/
import Derived.Test.YtodfkbgifoecbaaGreatDoorPoolM
namespace Go.Proofs.YtodfkbgifoecbaaGreatDoor
open Go.RowKit

theorem leftOf_nil (nums : List Int) : leftOf nums [] = nums := List.filter_eq_self.2 fun a _ => rfl
def replayF (p : P3) (st : Int) : Bool × Int := if poolOk p = true then if inB st 1 2147483646 = true then (decide ((drawGo p.nums p.drawn.length [] st).1 = p.drawn) && (drawGo p.nums p.drawn.length [] st).2 == p.st, 0) else (false, 2) else (false, 1)

end Go.Proofs.YtodfkbgifoecbaaGreatDoor
