/- From the reading of a slice of calls as data to the facts that the walks take. No condition. -/
import Derived.Test.YtgejjhmkdpmbfaaCallA
import Derived.Test.YtgejjhmkdpmbfaaFrame
namespace Go.Proofs.Ytgejjhmkdpmbfaa
open Go.ChangeShapes Go.WideShapes Go.ChangeAt Go.RowKit

theorem cells_lawsCall : Try.prog.cellsOf 57 = 4 := by kernel_rfl
theorem cells_int64 : Try.prog.cellsOf 2 = 1 := by kernel_rfl

set_option maxRecDepth 100000 in
theorem open_C4 {H : Type} {enc : TypeId × Value → H} {w : World} {spare : Nat → Bool} {held : Bool} {n : Nat} {cs : List Value} {y : DataW H × List MemPlace} (h : DataW.trod enc Try.prog w 0 spare held n 57 cs = some y) :
    ∃ a : C4, cs = a.vals ∧ True := by
  have hl := struct_len Try.underlying57 h
  rw [cells_lawsCall] at hl
  obtain ⟨a, e0, _⟩ := field_i64 Try.underlying57 h 0 0 2 rfl rfl rfl Try.underlying2 cells_int64 (by omega)
  obtain ⟨b, e1, _⟩ := field_i64 Try.underlying57 h 1 1 2 rfl rfl rfl Try.underlying2 cells_int64 (by omega)
  obtain ⟨c, e2, _⟩ := field_i64 Try.underlying57 h 2 2 2 rfl rfl rfl Try.underlying2 cells_int64 (by omega)
  obtain ⟨d, e3, _⟩ := field_i64 Try.underlying57 h 3 3 2 rfl rfl rfl Try.underlying2 cells_int64 (by omega)
  match cs, hl with
  | [x0, x1, x2, x3], _ =>
    simp at e0 e1 e2 e3
    subst e0 e1 e2 e3
    exact ⟨⟨a, b, c, d⟩, rfl, trivial⟩

set_option maxRecDepth 100000 in
theorem open_callS {H : Type} {enc : TypeId × Value → H} {w : World} {base : Nat} {v : Value} {d : DataW H} {p : List MemPlace} (hv : Value.okWide Try.prog w .any base 22 v) (h : DataW.Trod enc Try.prog w 0 (fun _ => true) true 22 v d p) :
    ∃ cs : List C4, SlC w 0 w.heap.size v cs := by
  obtain ⟨A, n, c, rfl⟩ := okWide_slice Try.underlying22 hv
  obtain ⟨fuel, hf⟩ := h
  obtain ⟨xs, h1, _⟩ := open_slR (f := C4.vals) (s := 4) (fun _ => rfl) (by decide) Try.underlying22 cells_lawsCall hf fun _ _ _ hy => open_C4 hy
  exact ⟨xs, h1⟩
end Go.Proofs.Ytgejjhmkdpmbfaa
