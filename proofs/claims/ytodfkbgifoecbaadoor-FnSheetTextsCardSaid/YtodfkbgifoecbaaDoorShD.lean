/- LongestRun: the program's and the reference's answer the same function of the days and numbers. No condition. -/
import Derived.Test.YtodfkbgifoecbaaDoorShC
namespace Go.Proofs.YtodfkbgifoecbaaDoor
open Go.RowKit

def runStep (n : Int) (r : Int) (zs : List Int) : Int := if hasB n zs = true then r + 1 else 0
def runGo (n : Int) : Int → Int → List (Int × List Int) → Int
  | m, _, [] => m
  | m, r, x :: t => runGo n (max m (runStep n r x.2)) (runStep n r x.2) t
def longestF (z : List (Int × List Int)) (n : Int) : Int × Int := if sheetsOk z = true then (runGo n 0 0 z, 0) else (0, 1)

theorem sheetsOk_len {z : List (Int × List Int)} (h : sheetsOk z = true) : z.length ≤ 15 := by
  simp only [sheetsOk, Bool.and_eq_true, decide_eq_true_eq] at h
  exact h.2

end Go.Proofs.YtodfkbgifoecbaaDoor
