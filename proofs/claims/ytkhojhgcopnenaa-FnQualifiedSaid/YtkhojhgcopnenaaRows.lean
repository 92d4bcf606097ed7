/-
  No cell of these rows narrows 'for every input' (looked for: loops, veiled, ifaces, maps, wideKeys, modest, calm, conditions, laid).
  DERIVED. THE GIVEN ROWS OF THIS SEAT. 6 by the template 'for every input the law returns true; each argument reads behind the call as it read before'; 0 by the template 'total and deterministic' (their statements: YtkhojhgcopnenaaTotals.lean).
  GIVEN WITH THE SEED: the statements are not yours to turn. If you find one false, say at which input.
  Laid BY PROGRAM, IN A SANDBOX (cutbox-rows.mjs): the forced cells as the released guide's own fill.sh prints them over the translation 126ecfc7d746be92… (all of the seat's roots in one cut). By AI agents, Wed Nov 11 2026. No macro, syntax, notation, axiom, sorry.
-/
import Derived.Test.YtkhojhgcopnenaaChecked
import GoSem.Claim
import GoSem.ClaimJoined
import GoSem.ClaimMapViews
import Derived.JoinedTies
import Derived.KernelRfl
namespace Go.Proofs.Ytkhojhgcopnenaa
/- THE CELL 'sum', in the pinned program and in every row, IS THE sha256 OF THE DUMP (.gsa) THAT YtkhojhgcopnenaaProg.lean LOADS. Nothing in Lean hashes anything: it is a label: what it is worth is what the hold of that sum in a sandbox is worth. -/
noncomputable def Try.pinned : Pinned := { name := "ytkhojhgcopnenaa", sum := "126ecfc7d746be923627821cb0357f185a3aac48afef92a4c46bf7aa512eb008", checked := Try.checked }
namespace Rows
def none {H : Type} : Left H := { results := [], args := [] }

/-- 'laws.FnExactIsPanel': WHATEVER THE INPUT: true; the input reads as it did. -/
def fnExactIsPanelSpec : ChangeSpec := { name := "fnExactIsPanel", fn := fun _ => fun
  | [d] => { results := [.lit (.bool true)], args := [d] }
  | _ => none }
def fnExactIsPanelRow : OpenClaim := { program := "ytkhojhgcopnenaa", sum := "126ecfc7d746be923627821cb0357f185a3aac48afef92a4c46bf7aa512eb008", func := "loop.example/g01027/laws.FnExactIsPanel", spec := "fnExactIsPanel", apart := false }
def FnExactIsPanelSaid : Prop := fnExactIsPanelRow.holds Try.pinned (OpenSpec.ofChange fnExactIsPanelSpec)

/-- ITS FALSE NEIGHBOUR: 'it returns false'. Refute it at one input. -/
def fnExactIsPanelWrong : ChangeSpec := { name := "fnExactIsPanel", fn := fun _ => fun
  | [d] => { results := [.lit (.bool false)], args := [d] }
  | _ => none }
def FnExactIsPanelWrongFalsely : Prop := fnExactIsPanelRow.holds Try.pinned (OpenSpec.ofChange fnExactIsPanelWrong)

/-- 'laws.FnExactIsQualified': WHATEVER THE INPUT: true; the input reads as it did. -/
def fnExactIsQualifiedSpec : ChangeSpec := { name := "fnExactIsQualified", fn := fun _ => fun
  | [d1, d2] => { results := [.lit (.bool true)], args := [d1, d2] }
  | _ => none }
def fnExactIsQualifiedRow : OpenClaim := { program := "ytkhojhgcopnenaa", sum := "126ecfc7d746be923627821cb0357f185a3aac48afef92a4c46bf7aa512eb008", func := "loop.example/g01027/laws.FnExactIsQualified", spec := "fnExactIsQualified", apart := false }
def FnExactIsQualifiedSaid : Prop := fnExactIsQualifiedRow.holds Try.pinned (OpenSpec.ofChange fnExactIsQualifiedSpec)

/-- ITS FALSE NEIGHBOUR: 'it returns false'. Refute it at one input. -/
def fnExactIsQualifiedWrong : ChangeSpec := { name := "fnExactIsQualified", fn := fun _ => fun
  | [d1, d2] => { results := [.lit (.bool false)], args := [d1, d2] }
  | _ => none }
def FnExactIsQualifiedWrongFalsely : Prop := fnExactIsQualifiedRow.holds Try.pinned (OpenSpec.ofChange fnExactIsQualifiedWrong)

/-- 'laws.FnExactQualifiedFrom': WHATEVER THE INPUT: true; the input reads as it did. -/
def fnExactQualifiedFromSpec : ChangeSpec := { name := "fnExactQualifiedFrom", fn := fun _ => fun
  | [d1, d2] => { results := [.lit (.bool true)], args := [d1, d2] }
  | _ => none }
def fnExactQualifiedFromRow : OpenClaim := { program := "ytkhojhgcopnenaa", sum := "126ecfc7d746be923627821cb0357f185a3aac48afef92a4c46bf7aa512eb008", func := "loop.example/g01027/laws.FnExactQualifiedFrom", spec := "fnExactQualifiedFrom", apart := false }
def FnExactQualifiedFromSaid : Prop := fnExactQualifiedFromRow.holds Try.pinned (OpenSpec.ofChange fnExactQualifiedFromSpec)

/-- ITS FALSE NEIGHBOUR: 'it returns false'. Refute it at one input. -/
def fnExactQualifiedFromWrong : ChangeSpec := { name := "fnExactQualifiedFrom", fn := fun _ => fun
  | [d1, d2] => { results := [.lit (.bool false)], args := [d1, d2] }
  | _ => none }
def FnExactQualifiedFromWrongFalsely : Prop := fnExactQualifiedFromRow.holds Try.pinned (OpenSpec.ofChange fnExactQualifiedFromWrong)

/-- 'laws.FnExactCountReasons': WHATEVER THE INPUT: true; the input reads as it did. -/
def fnExactCountReasonsSpec : ChangeSpec := { name := "fnExactCountReasons", fn := fun _ => fun
  | [d1, d2] => { results := [.lit (.bool true)], args := [d1, d2] }
  | _ => none }
def fnExactCountReasonsRow : OpenClaim := { program := "ytkhojhgcopnenaa", sum := "126ecfc7d746be923627821cb0357f185a3aac48afef92a4c46bf7aa512eb008", func := "loop.example/g01027/laws.FnExactCountReasons", spec := "fnExactCountReasons", apart := false }
def FnExactCountReasonsSaid : Prop := fnExactCountReasonsRow.holds Try.pinned (OpenSpec.ofChange fnExactCountReasonsSpec)

/-- ITS FALSE NEIGHBOUR: 'it returns false'. Refute it at one input. -/
def fnExactCountReasonsWrong : ChangeSpec := { name := "fnExactCountReasons", fn := fun _ => fun
  | [d1, d2] => { results := [.lit (.bool false)], args := [d1, d2] }
  | _ => none }
def FnExactCountReasonsWrongFalsely : Prop := fnExactCountReasonsRow.holds Try.pinned (OpenSpec.ofChange fnExactCountReasonsWrong)

/-- 'laws.FnExactQualifiedOf': WHATEVER THE INPUT: true; the input reads as it did. -/
def fnExactQualifiedOfSpec : ChangeSpec := { name := "fnExactQualifiedOf", fn := fun _ => fun
  | [d1, d2] => { results := [.lit (.bool true)], args := [d1, d2] }
  | _ => none }
def fnExactQualifiedOfRow : OpenClaim := { program := "ytkhojhgcopnenaa", sum := "126ecfc7d746be923627821cb0357f185a3aac48afef92a4c46bf7aa512eb008", func := "loop.example/g01027/laws.FnExactQualifiedOf", spec := "fnExactQualifiedOf", apart := false }
def FnExactQualifiedOfSaid : Prop := fnExactQualifiedOfRow.holds Try.pinned (OpenSpec.ofChange fnExactQualifiedOfSpec)

/-- ITS FALSE NEIGHBOUR: 'it returns false'. Refute it at one input. -/
def fnExactQualifiedOfWrong : ChangeSpec := { name := "fnExactQualifiedOf", fn := fun _ => fun
  | [d1, d2] => { results := [.lit (.bool false)], args := [d1, d2] }
  | _ => none }
def FnExactQualifiedOfWrongFalsely : Prop := fnExactQualifiedOfRow.holds Try.pinned (OpenSpec.ofChange fnExactQualifiedOfWrong)

/-- 'laws.FnQualified': WHATEVER THE INPUT: true; the input reads as it did. -/
def fnQualifiedSpec : ChangeSpec := { name := "fnQualified", fn := fun _ => fun
  | [d] => { results := [.lit (.bool true)], args := [d] }
  | _ => none }
def fnQualifiedRow : OpenClaim := { program := "ytkhojhgcopnenaa", sum := "126ecfc7d746be923627821cb0357f185a3aac48afef92a4c46bf7aa512eb008", func := "loop.example/g01027/laws.FnQualified", spec := "fnQualified", inPlace := ["internal/abi.NoEscape", "internal/bytealg.MakeNoZero"], apart := false }
def FnQualifiedSaid : Prop := fnQualifiedRow.holds Try.pinned (OpenSpec.ofChange fnQualifiedSpec)

/-- ITS FALSE NEIGHBOUR: 'it returns false'. Refute it at one input. -/
def fnQualifiedWrong : ChangeSpec := { name := "fnQualified", fn := fun _ => fun
  | [d] => { results := [.lit (.bool false)], args := [d] }
  | _ => none }
def FnQualifiedWrongFalsely : Prop := fnQualifiedRow.holds Try.pinned (OpenSpec.ofChange fnQualifiedWrong)

/- THE SECOND FORM. 'bulk': how many values and letters a reading holds, each counted each time it is reached (what is shared counts as often as it is met; a slice's spare places count too). A statement '..UptoSaid' is the law's where the arguments, and the package variables that the reading takes, are together of bulk at most 1048576: NARROWER than '..Said'. Prove '..Said' where nothing that the law and all that it calls make is longer than what came in: it says more and counts as full. Else prove '..UptoSaid'. A law counts once. -/
mutual
def uptoBulk {H : Type} : DataW H → Nat
  | .lit (.string bytes) => bytes.length + 1
  | .lit _ => 1
  | .nil => 1
  | .ptr d => uptoBulk d + 1
  | .slice elems spare => uptoBulkAll elems + uptoBulkAll spare + 1
  | .agg parts => uptoBulkAll parts + 1
  | .iface _ d => uptoBulk d + 1
  | .map entries => uptoBulkEntries entries + 1
  | .held _ => 1
def uptoBulkAll {H : Type} : List (DataW H) → Nat
  | [] => 0
  | d :: r => uptoBulk d + uptoBulkAll r
def uptoBulkEntries {H : Type} : List (Lit × DataW H) → Nat
  | [] => 0
  | x :: r => uptoBulkEntry x + uptoBulkEntries r
def uptoBulkEntry {H : Type} : Lit × DataW H → Nat
  | (.string bytes, d) => bytes.length + uptoBulk d + 1
  | (_, d) => uptoBulk d + 1
 end
def uptoSmall : (H : Type) → List (DataW H) → Bool := fun _ ds => decide (uptoBulkAll ds ≤ 1048576)
def OpenSpec.upto (s : _root_.Go.ChangeSpec) : _root_.Go.OpenSpec := { _root_.Go.OpenSpec.ofChange s with cond := some uptoSmall }

/-- 'laws.FnExactIsPanel', WHERE WHAT IT READS IS OF BULK AT MOST 1048576: true; the input reads as it did. -/
def fnExactIsPanelUptoRow : OpenClaim := { program := "ytkhojhgcopnenaa", sum := "126ecfc7d746be923627821cb0357f185a3aac48afef92a4c46bf7aa512eb008", func := "loop.example/g01027/laws.FnExactIsPanel", spec := "fnExactIsPanel", apart := false, narrowed := true }
def FnExactIsPanelUptoSaid : Prop := fnExactIsPanelUptoRow.holds Try.pinned (OpenSpec.upto fnExactIsPanelSpec)

/-- 'laws.FnExactIsQualified', WHERE WHAT IT READS IS OF BULK AT MOST 1048576: true; the input reads as it did. -/
def fnExactIsQualifiedUptoRow : OpenClaim := { program := "ytkhojhgcopnenaa", sum := "126ecfc7d746be923627821cb0357f185a3aac48afef92a4c46bf7aa512eb008", func := "loop.example/g01027/laws.FnExactIsQualified", spec := "fnExactIsQualified", apart := false, narrowed := true }
def FnExactIsQualifiedUptoSaid : Prop := fnExactIsQualifiedUptoRow.holds Try.pinned (OpenSpec.upto fnExactIsQualifiedSpec)

/-- 'laws.FnExactQualifiedFrom', WHERE WHAT IT READS IS OF BULK AT MOST 1048576: true; the input reads as it did. -/
def fnExactQualifiedFromUptoRow : OpenClaim := { program := "ytkhojhgcopnenaa", sum := "126ecfc7d746be923627821cb0357f185a3aac48afef92a4c46bf7aa512eb008", func := "loop.example/g01027/laws.FnExactQualifiedFrom", spec := "fnExactQualifiedFrom", apart := false, narrowed := true }
def FnExactQualifiedFromUptoSaid : Prop := fnExactQualifiedFromUptoRow.holds Try.pinned (OpenSpec.upto fnExactQualifiedFromSpec)

/-- 'laws.FnExactCountReasons', WHERE WHAT IT READS IS OF BULK AT MOST 1048576: true; the input reads as it did. -/
def fnExactCountReasonsUptoRow : OpenClaim := { program := "ytkhojhgcopnenaa", sum := "126ecfc7d746be923627821cb0357f185a3aac48afef92a4c46bf7aa512eb008", func := "loop.example/g01027/laws.FnExactCountReasons", spec := "fnExactCountReasons", apart := false, narrowed := true }
def FnExactCountReasonsUptoSaid : Prop := fnExactCountReasonsUptoRow.holds Try.pinned (OpenSpec.upto fnExactCountReasonsSpec)

/-- 'laws.FnExactQualifiedOf', WHERE WHAT IT READS IS OF BULK AT MOST 1048576: true; the input reads as it did. -/
def fnExactQualifiedOfUptoRow : OpenClaim := { program := "ytkhojhgcopnenaa", sum := "126ecfc7d746be923627821cb0357f185a3aac48afef92a4c46bf7aa512eb008", func := "loop.example/g01027/laws.FnExactQualifiedOf", spec := "fnExactQualifiedOf", apart := false, narrowed := true }
def FnExactQualifiedOfUptoSaid : Prop := fnExactQualifiedOfUptoRow.holds Try.pinned (OpenSpec.upto fnExactQualifiedOfSpec)

/-- 'laws.FnQualified', WHERE WHAT IT READS IS OF BULK AT MOST 1048576: true; the input reads as it did. -/
def fnQualifiedUptoRow : OpenClaim := { program := "ytkhojhgcopnenaa", sum := "126ecfc7d746be923627821cb0357f185a3aac48afef92a4c46bf7aa512eb008", func := "loop.example/g01027/laws.FnQualified", spec := "fnQualified", inPlace := ["internal/abi.NoEscape", "internal/bytealg.MakeNoZero"], apart := false, narrowed := true }
def FnQualifiedUptoSaid : Prop := fnQualifiedUptoRow.holds Try.pinned (OpenSpec.upto fnQualifiedSpec)

end Rows
end Go.Proofs.Ytkhojhgcopnenaa
