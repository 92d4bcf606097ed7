/- DaysPresent: the days on which a person was present, the program's and the reference's. No condition but the sizes that the law itself asks. -/
import Derived.Test.YtodfkbgifoecbaaDoorShD
import Derived.Test.YtodfkbgifoecbaaDoorReg
namespace Go.Proofs.YtodfkbgifoecbaaDoor
open Go.RowKit

def daysOf (z : List (Int × List Int)) (n : Int) : List Int := (z.filter fun x => hasB n x.2).map (·.1)
theorem daysOf_yes {xs : List H2} {n : Int} {k : Nat} {x : H2} (h : xs[k]? = some x) (hd : hasB n x.pres = true) : daysOf ((xs.map H2.ct).take (k + 1)) n = daysOf ((xs.map H2.ct).take k) n ++ [x.day] := by
  rw [take_snoc (l := xs.map H2.ct) (x := x.ct) (by rw [List.getElem?_map, h]; rfl)]; simp [daysOf, H2.ct, hd]
theorem daysOf_no {xs : List H2} {n : Int} {k : Nat} {x : H2} (h : xs[k]? = some x) (hd : hasB n x.pres = false) : daysOf ((xs.map H2.ct).take (k + 1)) n = daysOf ((xs.map H2.ct).take k) n := by
  rw [take_snoc (l := xs.map H2.ct) (x := x.ct) (by rw [List.getElem?_map, h]; rfl)]; simp [daysOf, H2.ct, hd]
theorem daysOf_len (z : List (Int × List Int)) (n : Int) : (daysOf z n).length ≤ z.length := by
  simp only [daysOf, List.length_map]; exact List.length_filter_le _ _
def daysF (z : List (Int × List Int)) (n : Int) : List Int × Int := if sheetsOk z = true then (daysOf z n, 0) else ([], 1)
theorem daysF_len (z : List (Int × List Int)) (n : Int) : (daysF z n).1.length ≤ 15 := by
  unfold daysF; split
  · next h => exact Nat.le_trans (daysOf_len z n) (sheetsOk_len h)
  · exact Nat.zero_le _

end Go.Proofs.YtodfkbgifoecbaaDoor
