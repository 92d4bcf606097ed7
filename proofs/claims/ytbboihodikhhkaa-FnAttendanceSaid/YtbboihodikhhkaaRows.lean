/-
  No cell of these rows narrows 'for every input' (looked for: loops, veiled, ifaces, maps, wideKeys, modest, calm, conditions, laid).
  DERIVED. THE GIVEN ROWS OF THIS SEAT. 4 by the template 'for every input the law returns true; each argument reads behind the call as it read before'; 0 by the template 'total and deterministic' (their statements: YtbboihodikhhkaaTotals.lean).
  GIVEN WITH THE SEED: the statements are not yours to turn. If you find one false, say at which input.
  Laid BY PROGRAM, IN A SANDBOX (cutbox-rows.mjs): the forced cells as the released guide's own fill.sh prints them over the translation b386179f1202928b… (all of the seat's roots in one cut). By AI agents, Wed Nov 11 2026. No macro, syntax, notation, axiom, sorry.
-/
import Derived.Test.YtbboihodikhhkaaChecked
import GoSem.Claim
import GoSem.ClaimJoined
import GoSem.ClaimMapViews
import Derived.JoinedTies
import Derived.KernelRfl
namespace Go.Proofs.Ytbboihodikhhkaa
/- THE CELL 'sum', in the pinned program and in every row, IS THE sha256 OF THE DUMP (.gsa) THAT YtbboihodikhhkaaProg.lean LOADS. Nothing in Lean hashes anything: it is a label: what it is worth is what the hold of that sum in a sandbox is worth. -/
noncomputable def Try.pinned : Pinned := { name := "ytbboihodikhhkaa", sum := "b386179f1202928b27b3eb7ff98fb4b23964c25835e2995e3525f33451d5bf0b", checked := Try.checked }
namespace Rows
def none {H : Type} : Left H := { results := [], args := [] }

/-- 'laws.FnExactMostPresent': WHATEVER THE INPUT: true; the input reads as it did. -/
def fnExactMostPresentSpec : ChangeSpec := { name := "fnExactMostPresent", fn := fun _ => fun
  | [d] => { results := [.lit (.bool true)], args := [d] }
  | _ => none }
def fnExactMostPresentRow : OpenClaim := { program := "ytbboihodikhhkaa", sum := "b386179f1202928b27b3eb7ff98fb4b23964c25835e2995e3525f33451d5bf0b", func := "loop.example/g01027/laws.FnExactMostPresent", spec := "fnExactMostPresent", apart := false }
def FnExactMostPresentSaid : Prop := fnExactMostPresentRow.holds Try.pinned (OpenSpec.ofChange fnExactMostPresentSpec)

/-- ITS FALSE NEIGHBOUR: 'it returns false'. Refute it at one input. -/
def fnExactMostPresentWrong : ChangeSpec := { name := "fnExactMostPresent", fn := fun _ => fun
  | [d] => { results := [.lit (.bool false)], args := [d] }
  | _ => none }
def FnExactMostPresentWrongFalsely : Prop := fnExactMostPresentRow.holds Try.pinned (OpenSpec.ofChange fnExactMostPresentWrong)

/-- 'laws.FnExactMarkPresent': WHATEVER THE INPUT: true; the input reads as it did. -/
def fnExactMarkPresentSpec : ChangeSpec := { name := "fnExactMarkPresent", fn := fun _ => fun
  | [d1, d2, d3] => { results := [.lit (.bool true)], args := [d1, d2, d3] }
  | _ => none }
def fnExactMarkPresentRow : OpenClaim := { program := "ytbboihodikhhkaa", sum := "b386179f1202928b27b3eb7ff98fb4b23964c25835e2995e3525f33451d5bf0b", func := "loop.example/g01027/laws.FnExactMarkPresent", spec := "fnExactMarkPresent", inPlace := ["slices.overlaps[loop.example/g01027/impl.Sheet]", "slices.overlaps[int64]"], apart := false }
def FnExactMarkPresentSaid : Prop := fnExactMarkPresentRow.holds Try.pinned (OpenSpec.ofChange fnExactMarkPresentSpec)

/-- ITS FALSE NEIGHBOUR: 'it returns false'. Refute it at one input. -/
def fnExactMarkPresentWrong : ChangeSpec := { name := "fnExactMarkPresent", fn := fun _ => fun
  | [d1, d2, d3] => { results := [.lit (.bool false)], args := [d1, d2, d3] }
  | _ => none }
def FnExactMarkPresentWrongFalsely : Prop := fnExactMarkPresentRow.holds Try.pinned (OpenSpec.ofChange fnExactMarkPresentWrong)

/-- 'laws.FnPresence': WHATEVER THE INPUT: true; the input reads as it did. -/
def fnPresenceSpec : ChangeSpec := { name := "fnPresence", fn := fun _ => fun
  | [d] => { results := [.lit (.bool true)], args := [d] }
  | _ => none }
def fnPresenceRow : OpenClaim := { program := "ytbboihodikhhkaa", sum := "b386179f1202928b27b3eb7ff98fb4b23964c25835e2995e3525f33451d5bf0b", func := "loop.example/g01027/laws.FnPresence", spec := "fnPresence", apart := false }
def FnPresenceSaid : Prop := fnPresenceRow.holds Try.pinned (OpenSpec.ofChange fnPresenceSpec)

/-- ITS FALSE NEIGHBOUR: 'it returns false'. Refute it at one input. -/
def fnPresenceWrong : ChangeSpec := { name := "fnPresence", fn := fun _ => fun
  | [d] => { results := [.lit (.bool false)], args := [d] }
  | _ => none }
def FnPresenceWrongFalsely : Prop := fnPresenceRow.holds Try.pinned (OpenSpec.ofChange fnPresenceWrong)

/-- 'laws.FnAttendance': WHATEVER THE INPUT: true; the input reads as it did. -/
def fnAttendanceSpec : ChangeSpec := { name := "fnAttendance", fn := fun _ => fun
  | [d] => { results := [.lit (.bool true)], args := [d] }
  | _ => none }
def fnAttendanceRow : OpenClaim := { program := "ytbboihodikhhkaa", sum := "b386179f1202928b27b3eb7ff98fb4b23964c25835e2995e3525f33451d5bf0b", func := "loop.example/g01027/laws.FnAttendance", spec := "fnAttendance", inPlace := ["slices.overlaps[loop.example/g01027/impl.Sheet]", "slices.overlaps[int64]"], unfollowed := true, recurses := true, apart := false }
def FnAttendanceSaid : Prop := fnAttendanceRow.holds Try.pinned (OpenSpec.ofChange fnAttendanceSpec)

/-- ITS FALSE NEIGHBOUR: 'it returns false'. Refute it at one input. -/
def fnAttendanceWrong : ChangeSpec := { name := "fnAttendance", fn := fun _ => fun
  | [d] => { results := [.lit (.bool false)], args := [d] }
  | _ => none }
def FnAttendanceWrongFalsely : Prop := fnAttendanceRow.holds Try.pinned (OpenSpec.ofChange fnAttendanceWrong)

/- THE SECOND FORM. 'bulk': how many values and letters a reading holds, each counted each time it is reached (what is shared counts as often as it is met; a slice's spare places count too). A statement '..UptoSaid' is the law's where the arguments, and the package variables that the reading takes, are together of bulk at most 1048576: NARROWER than '..Said'. Prove '..Said' where nothing that the law and all that it calls make is longer than what came in: it says more and counts as full. Else prove '..UptoSaid'. A law counts once. -/
mutual
def uptoBulk {H : Type} : DataW H → Nat
  | .lit (.string bytes) => bytes.length + 1
  | .lit _ => 1
  | .nil => 1
  | .ptr d => uptoBulk d + 1
  | .slice elems spare => uptoBulkAll elems + uptoBulkAll spare + 1
  | .agg parts => uptoBulkAll parts + 1
  | .iface _ d => uptoBulk d + 1
  | .map entries => uptoBulkEntries entries + 1
  | .held _ => 1
def uptoBulkAll {H : Type} : List (DataW H) → Nat
  | [] => 0
  | d :: r => uptoBulk d + uptoBulkAll r
def uptoBulkEntries {H : Type} : List (Lit × DataW H) → Nat
  | [] => 0
  | x :: r => uptoBulkEntry x + uptoBulkEntries r
def uptoBulkEntry {H : Type} : Lit × DataW H → Nat
  | (.string bytes, d) => bytes.length + uptoBulk d + 1
  | (_, d) => uptoBulk d + 1
 end
def uptoSmall : (H : Type) → List (DataW H) → Bool := fun _ ds => decide (uptoBulkAll ds ≤ 1048576)
def OpenSpec.upto (s : _root_.Go.ChangeSpec) : _root_.Go.OpenSpec := { _root_.Go.OpenSpec.ofChange s with cond := some uptoSmall }

/-- 'laws.FnExactMostPresent', WHERE WHAT IT READS IS OF BULK AT MOST 1048576: true; the input reads as it did. -/
def fnExactMostPresentUptoRow : OpenClaim := { program := "ytbboihodikhhkaa", sum := "b386179f1202928b27b3eb7ff98fb4b23964c25835e2995e3525f33451d5bf0b", func := "loop.example/g01027/laws.FnExactMostPresent", spec := "fnExactMostPresent", apart := false, narrowed := true }
def FnExactMostPresentUptoSaid : Prop := fnExactMostPresentUptoRow.holds Try.pinned (OpenSpec.upto fnExactMostPresentSpec)

/-- 'laws.FnExactMarkPresent', WHERE WHAT IT READS IS OF BULK AT MOST 1048576: true; the input reads as it did. -/
def fnExactMarkPresentUptoRow : OpenClaim := { program := "ytbboihodikhhkaa", sum := "b386179f1202928b27b3eb7ff98fb4b23964c25835e2995e3525f33451d5bf0b", func := "loop.example/g01027/laws.FnExactMarkPresent", spec := "fnExactMarkPresent", inPlace := ["slices.overlaps[loop.example/g01027/impl.Sheet]", "slices.overlaps[int64]"], apart := false, narrowed := true }
def FnExactMarkPresentUptoSaid : Prop := fnExactMarkPresentUptoRow.holds Try.pinned (OpenSpec.upto fnExactMarkPresentSpec)

/-- 'laws.FnPresence', WHERE WHAT IT READS IS OF BULK AT MOST 1048576: true; the input reads as it did. -/
def fnPresenceUptoRow : OpenClaim := { program := "ytbboihodikhhkaa", sum := "b386179f1202928b27b3eb7ff98fb4b23964c25835e2995e3525f33451d5bf0b", func := "loop.example/g01027/laws.FnPresence", spec := "fnPresence", apart := false, narrowed := true }
def FnPresenceUptoSaid : Prop := fnPresenceUptoRow.holds Try.pinned (OpenSpec.upto fnPresenceSpec)

/-- 'laws.FnAttendance', WHERE WHAT IT READS IS OF BULK AT MOST 1048576: true; the input reads as it did. -/
def fnAttendanceUptoRow : OpenClaim := { program := "ytbboihodikhhkaa", sum := "b386179f1202928b27b3eb7ff98fb4b23964c25835e2995e3525f33451d5bf0b", func := "loop.example/g01027/laws.FnAttendance", spec := "fnAttendance", inPlace := ["slices.overlaps[loop.example/g01027/impl.Sheet]", "slices.overlaps[int64]"], unfollowed := true, recurses := true, apart := false, narrowed := true }
def FnAttendanceUptoSaid : Prop := fnAttendanceUptoRow.holds Try.pinned (OpenSpec.upto fnAttendanceSpec)

end Rows
end Go.Proofs.Ytbboihodikhhkaa
