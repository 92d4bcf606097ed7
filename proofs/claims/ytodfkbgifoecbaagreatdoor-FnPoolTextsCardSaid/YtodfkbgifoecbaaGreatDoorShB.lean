/- Sheets: what a sheet must be, and that the days rise. No condition. -/
import Derived.Test.YtodfkbgifoecbaaGreatDoorShA
namespace Go.Proofs.YtodfkbgifoecbaaGreatDoor
open Go.ChangeShapes Go.WideShapes Go.ChangeAt Go.RowKit

def okH (d : Int) (zs : List Int) : Bool := incGo 1 1000000 none zs && inB d 0 20000 && decide (zs.length ≤ 60)
def H2.ok (x : H2) : Bool := okH x.day x.pres

def H2.behind : Option H2 → H2 → Bool
  | none, _ => true
  | some p, c => decide (p.day < c.day)
def risesGoH2 : Option H2 → List H2 → Bool
  | _, [] => true
  | p, c :: t => c.ok && H2.behind p c && risesGoH2 (some c) t
def listOkH2 (cs : List H2) : Bool := risesGoH2 none cs && decide (cs.length ≤ 15)

end Go.Proofs.YtodfkbgifoecbaaGreatDoor
