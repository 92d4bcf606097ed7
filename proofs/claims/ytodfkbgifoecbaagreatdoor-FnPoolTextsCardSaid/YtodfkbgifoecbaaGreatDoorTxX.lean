/- The package-level variables that the rows of reading list (seven): a world that meets the condition, and what the condition gives a walk. No condition. -/
import Derived.Test.YtodfkbgifoecbaaGreatDoorTxL
import Derived.Lay
import Derived.MakeChecks
import Derived.ChangeAgain
import Derived.ChangeMaps5
namespace Go.Proofs.YtodfkbgifoecbaaGreatDoor
open Go.ChangeShapes Go.WideShapes Go.ChangeAt Go.RowKit

def laid7 : List (String × DataW Unit) := [("math/bits.deBruijn32tab", Rows.laid_math_bits_deBruijn32tab), ("math/bits.deBruijn64tab", Rows.laid_math_bits_deBruijn64tab), ("internal/strconv.uint64pow10", Rows.laid_internal_strconv_uint64pow10), ("unicode/utf8.acceptRanges", Rows.laid_unicode_utf8_acceptRanges), ("strconv.ErrRange", Rows.laid_strconv_ErrRange), ("strconv.ErrSyntax", Rows.laid_strconv_ErrSyntax), ("unicode/utf8.first", Rows.laid_unicode_utf8_first)]
theorem noHandle7 : (laid7.filter fun x => x.2.handleName?.isSome) = [] := by kernel_rfl
theorem metH7 {w : World} : laidMetH Tryz.prog laid7 w ↔ laidMet Tryz.prog laid7 w := by
  unfold laidMetH
  rw [noHandle7]
theorem starErr : "*" ++ "errors.errorString" = "*errors.errorString" := by decide
theorem rowErr (u : TypeId) (h : Tryz.prog.typeName? 3 u = some "*errors.errorString") : u = 130 :=
  typeName_ptr_named (nm := "errors.errorString") (by rw [starErr]; kernel_rfl) (by kernel_rfl) (by decide) u (by rw [starErr]; exact h)
theorem gRange : Tryz.prog.globalNamed "strconv.ErrRange" = some 3 := by kernel_rfl
theorem gRangeType : (Tryz.prog.globals[3]?).map (·.type) = some 65 := by kernel_rfl
theorem gSyntax : Tryz.prog.globalNamed "strconv.ErrSyntax" = some 2 := by kernel_rfl
theorem gSyntaxType : (Tryz.prog.globals[2]?).map (·.type) = some 65 := by kernel_rfl
theorem cellsErr : Tryz.prog.cellsOf 132 = 1 := by kernel_rfl
theorem cellsStr : Tryz.prog.cellsOf 9 = 1 := by kernel_rfl
theorem var_below {P : Program} {n : String} {cs : Array Value} {w w' : World} (h : w.var? P n = some cs) (hb : Below w.heap.size w w') : w'.var? P n = some cs := by
  unfold World.var? at h ⊢
  cases hg : P.globalNamed n with
  | none => rw [hg] at h; cases h
  | some g =>
    rw [hg] at h
    simp only [Option.bind_some] at h ⊢
    have hlt : g < w.heap.size := by
      rcases Nat.lt_or_ge g w.heap.size with h' | h'
      · exact h'
      · rw [Array.getElem?_eq_none h'] at h; cases h
    rw [hb.block g hlt]
    exact h
theorem shaped_below {P : Program} {w w' : World} (h : w.ShapedOpen P) (hb : Below w.heap.size w w') : w'.ShapedOpen P :=
  h.keptBut (hb.frame fun _ => False) (fun _ hp => hp.elim)
theorem env_of7 {W : World} (h : laidMet Tryz.prog laid7 W) (hS : W.ShapedOpen Tryz.prog) : Env W.heap.size W := by
  have h2 := laidMet.tail (laidMet.tail h)
  have hp := envT_of h2
  have h4 := laidMet.tail (laidMet.tail h2)
  obtain ⟨a0, s0, hv0, _⟩ := laid_sentinel h4 gRange gRangeType Tryz.underlying65 rowErr Tryz.underlying130 Tryz.underlying132 rfl rfl Tryz.underlying9 cellsErr cellsStr
  obtain ⟨a1, s1, hv1, _⟩ := laid_sentinel (laidMet.tail h4) gSyntax gSyntaxType Tryz.underlying65 rowErr Tryz.underlying130 Tryz.underlying132 rfl rfl Tryz.underlying9 cellsErr cellsStr
  exact fun w' hb => ⟨shaped_below hS hb, hp w' hb, ⟨_, _, var_below hv1 hb⟩, ⟨_, _, var_below hv0 hb⟩⟩
set_option maxRecDepth 100000 in
theorem open_StringS {H : Type} {enc : TypeId × Value → H} {w : World} {base : Nat} {v : Value} {d : DataW H} {p : List MemPlace} (hv : Value.okWide Tryz.prog w .any base 9 v) (h : DataW.Trod enc Tryz.prog w 0 (fun _ => true) true 9 v d p) :
    ∃ s : ByteArray, v = .string s := by
  obtain ⟨s, e, _⟩ := Go.ChangeMaps.open_string Tryz.underlying9 hv h
  exact ⟨s, e⟩
end Go.Proofs.YtodfkbgifoecbaaGreatDoor
