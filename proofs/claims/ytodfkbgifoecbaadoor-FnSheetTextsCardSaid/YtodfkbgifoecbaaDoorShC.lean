/- AreSheets, stated by the days and numbers alone. No condition. -/
import Derived.Test.YtodfkbgifoecbaaDoorShB
namespace Go.Proofs.YtodfkbgifoecbaaDoor
open Go.RowKit
def aboveB : Option Int → Int → Bool
  | none, _ => true
  | some q, d => decide (q < d)
def sheetsGo : Option Int → List (Int × List Int) → Bool
  | _, [] => true
  | p, c :: t => okH c.1 c.2 && aboveB p c.1 && sheetsGo (some c.1) t
def sheetsOk (z : List (Int × List Int)) : Bool := sheetsGo none z && decide (z.length ≤ 15)
theorem sheetsGo_eq : ∀ (xs : List H2) (p : Option H2), risesGoH2 p xs = sheetsGo (p.map (·.day)) (xs.map H2.ct)
  | [], _ => rfl
  | x :: t, p => by
    rw [risesGoH2, List.map_cons, sheetsGo, sheetsGo_eq t (some x)]
    cases p <;> rfl
theorem listOkH2_eq (xs : List H2) : listOkH2 xs = sheetsOk (xs.map H2.ct) := by
  rw [listOkH2, sheetsOk, sheetsGo_eq, List.length_map]; rfl
end Go.Proofs.YtodfkbgifoecbaaDoor
