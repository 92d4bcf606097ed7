/- AreSheets, stated by the days and numbers alone. No condition. -/
import Derived.Test.YtbboihodikhhkaaShB
namespace Go.Proofs.Ytbboihodikhhkaa
open Go.RowKit
def aboveB : Option Int → Int → Bool
  | none, _ => true
  | some q, d => decide (q < d)
def sheetsGo : Option Int → List (Int × List Int) → Bool
  | _, [] => true
  | p, c :: t => okH c.1 c.2 && aboveB p c.1 && sheetsGo (some c.1) t
def sheetsOk (z : List (Int × List Int)) : Bool := sheetsGo none z && decide (z.length ≤ 15)
theorem sheetsGo_eq : ∀ (xs : List H2) (p : Option H2), risesGoH2 p xs = sheetsGo (p.map (·.day)) (xs.map H2.ct)
  | [], _ => rfl
  | x :: t, p => by
    rw [risesGoH2, List.map_cons, sheetsGo, sheetsGo_eq t (some x)]
    cases p <;> rfl
theorem listOkH2_eq (xs : List H2) : listOkH2 xs = sheetsOk (xs.map H2.ct) := by
  rw [listOkH2, sheetsOk, sheetsGo_eq, List.length_map]; rfl
theorem specAreSheets_z (v : Value) (z : List (Int × List Int)) (w : World) (lo : Nat) (h : RdH w lo w.heap.size v z) :
    Calls Try.prog 32 #[v] w fun e w' => e = .returned (.bool (sheetsOk z)) ∧ Below w.heap.size w w' := by
  obtain ⟨xs, h, rfl⟩ := h
  exact listOkH2_eq xs ▸ specAreSheets_any v xs w lo h
theorem implAreSheets_z (v : Value) (z : List (Int × List Int)) (w : World) (lo : Nat) (h : RdH w lo w.heap.size v z) :
    Calls Try.prog 31 #[v] w fun e w' => e = .returned (.bool (sheetsOk z)) ∧ Below w.heap.size w w' := by
  obtain ⟨xs, h, rfl⟩ := h
  exact listOkH2_eq xs ▸ implAreSheets_any v xs w lo h
end Go.Proofs.Ytbboihodikhhkaa
