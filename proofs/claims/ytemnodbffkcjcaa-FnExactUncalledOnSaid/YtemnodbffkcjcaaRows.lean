/-
  No cell of these rows narrows 'for every input' (looked for: loops, veiled, ifaces, maps, wideKeys, modest, calm, conditions, laid).
  DERIVED. THE GIVEN ROWS OF THIS SEAT. 9 by the template 'for every input the law returns true; each argument reads behind the call as it read before'; 0 by the template 'total and deterministic' (their statements: YtemnodbffkcjcaaTotals.lean).
  GIVEN WITH THE SEED: the statements are not yours to turn. If you find one false, say at which input.
  Laid BY PROGRAM, IN A SANDBOX (cutbox-rows.mjs): the forced cells as the released guide's own fill.sh prints them over the translation 6320737c2d3bc4c0… (all of the seat's roots in one cut). By AI agents, Wed Nov 11 2026. No macro, syntax, notation, axiom, sorry.
-/
import Derived.Test.YtemnodbffkcjcaaChecked
import GoSem.Claim
import GoSem.ClaimJoined
import GoSem.ClaimMapViews
import Derived.JoinedTies
import Derived.KernelRfl
namespace Go.Proofs.Ytemnodbffkcjcaa
/- THE CELL 'sum', in the pinned program and in every row, IS THE sha256 OF THE DUMP (.gsa) THAT YtemnodbffkcjcaaProg.lean LOADS. Nothing in Lean hashes anything: it is a label: what it is worth is what the hold of that sum in a sandbox is worth. -/
noncomputable def Try.pinned : Pinned := { name := "ytemnodbffkcjcaa", sum := "6320737c2d3bc4c049d53dda3bf9ac419126f1f5d171b56517f308f94a63cb10", checked := Try.checked }
namespace Rows
def none {H : Type} : Left H := { results := [], args := [] }

/-- 'laws.FnExactAreSheets': WHATEVER THE INPUT: true; the input reads as it did. -/
def fnExactAreSheetsSpec : ChangeSpec := { name := "fnExactAreSheets", fn := fun _ => fun
  | [d] => { results := [.lit (.bool true)], args := [d] }
  | _ => none }
def fnExactAreSheetsRow : OpenClaim := { program := "ytemnodbffkcjcaa", sum := "6320737c2d3bc4c049d53dda3bf9ac419126f1f5d171b56517f308f94a63cb10", func := "loop.example/g01027/laws.FnExactAreSheets", spec := "fnExactAreSheets", apart := false }
def FnExactAreSheetsSaid : Prop := fnExactAreSheetsRow.holds Try.pinned (OpenSpec.ofChange fnExactAreSheetsSpec)

/-- ITS FALSE NEIGHBOUR: 'it returns false'. Refute it at one input. -/
def fnExactAreSheetsWrong : ChangeSpec := { name := "fnExactAreSheets", fn := fun _ => fun
  | [d] => { results := [.lit (.bool false)], args := [d] }
  | _ => none }
def FnExactAreSheetsWrongFalsely : Prop := fnExactAreSheetsRow.holds Try.pinned (OpenSpec.ofChange fnExactAreSheetsWrong)

/-- 'laws.FnExactLongestRun': WHATEVER THE INPUT: true; the input reads as it did. -/
def fnExactLongestRunSpec : ChangeSpec := { name := "fnExactLongestRun", fn := fun _ => fun
  | [d1, d2] => { results := [.lit (.bool true)], args := [d1, d2] }
  | _ => none }
def fnExactLongestRunRow : OpenClaim := { program := "ytemnodbffkcjcaa", sum := "6320737c2d3bc4c049d53dda3bf9ac419126f1f5d171b56517f308f94a63cb10", func := "loop.example/g01027/laws.FnExactLongestRun", spec := "fnExactLongestRun", apart := false }
def FnExactLongestRunSaid : Prop := fnExactLongestRunRow.holds Try.pinned (OpenSpec.ofChange fnExactLongestRunSpec)

/-- ITS FALSE NEIGHBOUR: 'it returns false'. Refute it at one input. -/
def fnExactLongestRunWrong : ChangeSpec := { name := "fnExactLongestRun", fn := fun _ => fun
  | [d1, d2] => { results := [.lit (.bool false)], args := [d1, d2] }
  | _ => none }
def FnExactLongestRunWrongFalsely : Prop := fnExactLongestRunRow.holds Try.pinned (OpenSpec.ofChange fnExactLongestRunWrong)

/-- 'laws.FnExactMostPresent': WHATEVER THE INPUT: true; the input reads as it did. -/
def fnExactMostPresentSpec : ChangeSpec := { name := "fnExactMostPresent", fn := fun _ => fun
  | [d] => { results := [.lit (.bool true)], args := [d] }
  | _ => none }
def fnExactMostPresentRow : OpenClaim := { program := "ytemnodbffkcjcaa", sum := "6320737c2d3bc4c049d53dda3bf9ac419126f1f5d171b56517f308f94a63cb10", func := "loop.example/g01027/laws.FnExactMostPresent", spec := "fnExactMostPresent", apart := false }
def FnExactMostPresentSaid : Prop := fnExactMostPresentRow.holds Try.pinned (OpenSpec.ofChange fnExactMostPresentSpec)

/-- ITS FALSE NEIGHBOUR: 'it returns false'. Refute it at one input. -/
def fnExactMostPresentWrong : ChangeSpec := { name := "fnExactMostPresent", fn := fun _ => fun
  | [d] => { results := [.lit (.bool false)], args := [d] }
  | _ => none }
def FnExactMostPresentWrongFalsely : Prop := fnExactMostPresentRow.holds Try.pinned (OpenSpec.ofChange fnExactMostPresentWrong)

/-- 'laws.FnExactDaysPresent': WHATEVER THE INPUT: true; the input reads as it did. -/
def fnExactDaysPresentSpec : ChangeSpec := { name := "fnExactDaysPresent", fn := fun _ => fun
  | [d1, d2] => { results := [.lit (.bool true)], args := [d1, d2] }
  | _ => none }
def fnExactDaysPresentRow : OpenClaim := { program := "ytemnodbffkcjcaa", sum := "6320737c2d3bc4c049d53dda3bf9ac419126f1f5d171b56517f308f94a63cb10", func := "loop.example/g01027/laws.FnExactDaysPresent", spec := "fnExactDaysPresent", apart := false }
def FnExactDaysPresentSaid : Prop := fnExactDaysPresentRow.holds Try.pinned (OpenSpec.ofChange fnExactDaysPresentSpec)

/-- ITS FALSE NEIGHBOUR: 'it returns false'. Refute it at one input. -/
def fnExactDaysPresentWrong : ChangeSpec := { name := "fnExactDaysPresent", fn := fun _ => fun
  | [d1, d2] => { results := [.lit (.bool false)], args := [d1, d2] }
  | _ => none }
def FnExactDaysPresentWrongFalsely : Prop := fnExactDaysPresentRow.holds Try.pinned (OpenSpec.ofChange fnExactDaysPresentWrong)

/-- 'laws.FnPresence': WHATEVER THE INPUT: true; the input reads as it did. -/
def fnPresenceSpec : ChangeSpec := { name := "fnPresence", fn := fun _ => fun
  | [d] => { results := [.lit (.bool true)], args := [d] }
  | _ => none }
def fnPresenceRow : OpenClaim := { program := "ytemnodbffkcjcaa", sum := "6320737c2d3bc4c049d53dda3bf9ac419126f1f5d171b56517f308f94a63cb10", func := "loop.example/g01027/laws.FnPresence", spec := "fnPresence", apart := false }
def FnPresenceSaid : Prop := fnPresenceRow.holds Try.pinned (OpenSpec.ofChange fnPresenceSpec)

/-- ITS FALSE NEIGHBOUR: 'it returns false'. Refute it at one input. -/
def fnPresenceWrong : ChangeSpec := { name := "fnPresence", fn := fun _ => fun
  | [d] => { results := [.lit (.bool false)], args := [d] }
  | _ => none }
def FnPresenceWrongFalsely : Prop := fnPresenceRow.holds Try.pinned (OpenSpec.ofChange fnPresenceWrong)

/-- 'laws.FnExactAbsentOn': WHATEVER THE INPUT: true; the input reads as it did. -/
def fnExactAbsentOnSpec : ChangeSpec := { name := "fnExactAbsentOn", fn := fun _ => fun
  | [d1, d2, d3] => { results := [.lit (.bool true)], args := [d1, d2, d3] }
  | _ => none }
def fnExactAbsentOnRow : OpenClaim := { program := "ytemnodbffkcjcaa", sum := "6320737c2d3bc4c049d53dda3bf9ac419126f1f5d171b56517f308f94a63cb10", func := "loop.example/g01027/laws.FnExactAbsentOn", spec := "fnExactAbsentOn", unfollowed := true, recurses := true, apart := false }
def FnExactAbsentOnSaid : Prop := fnExactAbsentOnRow.holds Try.pinned (OpenSpec.ofChange fnExactAbsentOnSpec)

/-- ITS FALSE NEIGHBOUR: 'it returns false'. Refute it at one input. -/
def fnExactAbsentOnWrong : ChangeSpec := { name := "fnExactAbsentOn", fn := fun _ => fun
  | [d1, d2, d3] => { results := [.lit (.bool false)], args := [d1, d2, d3] }
  | _ => none }
def FnExactAbsentOnWrongFalsely : Prop := fnExactAbsentOnRow.holds Try.pinned (OpenSpec.ofChange fnExactAbsentOnWrong)

/-- 'laws.FnExactUncalledOn': WHATEVER THE INPUT: true; the input reads as it did. -/
def fnExactUncalledOnSpec : ChangeSpec := { name := "fnExactUncalledOn", fn := fun _ => fun
  | [d1, d2, d3] => { results := [.lit (.bool true)], args := [d1, d2, d3] }
  | _ => none }
def fnExactUncalledOnRow : OpenClaim := { program := "ytemnodbffkcjcaa", sum := "6320737c2d3bc4c049d53dda3bf9ac419126f1f5d171b56517f308f94a63cb10", func := "loop.example/g01027/laws.FnExactUncalledOn", spec := "fnExactUncalledOn", unfollowed := true, recurses := true, apart := false }
def FnExactUncalledOnSaid : Prop := fnExactUncalledOnRow.holds Try.pinned (OpenSpec.ofChange fnExactUncalledOnSpec)

/-- ITS FALSE NEIGHBOUR: 'it returns false'. Refute it at one input. -/
def fnExactUncalledOnWrong : ChangeSpec := { name := "fnExactUncalledOn", fn := fun _ => fun
  | [d1, d2, d3] => { results := [.lit (.bool false)], args := [d1, d2, d3] }
  | _ => none }
def FnExactUncalledOnWrongFalsely : Prop := fnExactUncalledOnRow.holds Try.pinned (OpenSpec.ofChange fnExactUncalledOnWrong)

/-- 'laws.FnExactMarkPresent': WHATEVER THE INPUT: true; the input reads as it did. -/
def fnExactMarkPresentSpec : ChangeSpec := { name := "fnExactMarkPresent", fn := fun _ => fun
  | [d1, d2, d3] => { results := [.lit (.bool true)], args := [d1, d2, d3] }
  | _ => none }
def fnExactMarkPresentRow : OpenClaim := { program := "ytemnodbffkcjcaa", sum := "6320737c2d3bc4c049d53dda3bf9ac419126f1f5d171b56517f308f94a63cb10", func := "loop.example/g01027/laws.FnExactMarkPresent", spec := "fnExactMarkPresent", inPlace := ["slices.overlaps[loop.example/g01027/impl.Sheet]", "slices.overlaps[int64]"], apart := false }
def FnExactMarkPresentSaid : Prop := fnExactMarkPresentRow.holds Try.pinned (OpenSpec.ofChange fnExactMarkPresentSpec)

/-- ITS FALSE NEIGHBOUR: 'it returns false'. Refute it at one input. -/
def fnExactMarkPresentWrong : ChangeSpec := { name := "fnExactMarkPresent", fn := fun _ => fun
  | [d1, d2, d3] => { results := [.lit (.bool false)], args := [d1, d2, d3] }
  | _ => none }
def FnExactMarkPresentWrongFalsely : Prop := fnExactMarkPresentRow.holds Try.pinned (OpenSpec.ofChange fnExactMarkPresentWrong)

/-- 'laws.FnAttendance': WHATEVER THE INPUT: true; the input reads as it did. -/
def fnAttendanceSpec : ChangeSpec := { name := "fnAttendance", fn := fun _ => fun
  | [d] => { results := [.lit (.bool true)], args := [d] }
  | _ => none }
def fnAttendanceRow : OpenClaim := { program := "ytemnodbffkcjcaa", sum := "6320737c2d3bc4c049d53dda3bf9ac419126f1f5d171b56517f308f94a63cb10", func := "loop.example/g01027/laws.FnAttendance", spec := "fnAttendance", inPlace := ["slices.overlaps[loop.example/g01027/impl.Sheet]", "slices.overlaps[int64]"], unfollowed := true, recurses := true, apart := false }
def FnAttendanceSaid : Prop := fnAttendanceRow.holds Try.pinned (OpenSpec.ofChange fnAttendanceSpec)

/-- ITS FALSE NEIGHBOUR: 'it returns false'. Refute it at one input. -/
def fnAttendanceWrong : ChangeSpec := { name := "fnAttendance", fn := fun _ => fun
  | [d] => { results := [.lit (.bool false)], args := [d] }
  | _ => none }
def FnAttendanceWrongFalsely : Prop := fnAttendanceRow.holds Try.pinned (OpenSpec.ofChange fnAttendanceWrong)

/- THE SECOND FORM. 'bulk': how many values and letters a reading holds, each counted each time it is reached (what is shared counts as often as it is met; a slice's spare places count too). A statement '..UptoSaid' is the law's where the arguments, and the package variables that the reading takes, are together of bulk at most 1048576: NARROWER than '..Said'. Prove '..Said' where nothing that the law and all that it calls make is longer than what came in: it says more and counts as full. Else prove '..UptoSaid'. A law counts once. -/
mutual
def uptoBulk {H : Type} : DataW H → Nat
  | .lit (.string bytes) => bytes.length + 1
  | .lit _ => 1
  | .nil => 1
  | .ptr d => uptoBulk d + 1
  | .slice elems spare => uptoBulkAll elems + uptoBulkAll spare + 1
  | .agg parts => uptoBulkAll parts + 1
  | .iface _ d => uptoBulk d + 1
  | .map entries => uptoBulkEntries entries + 1
  | .held _ => 1
def uptoBulkAll {H : Type} : List (DataW H) → Nat
  | [] => 0
  | d :: r => uptoBulk d + uptoBulkAll r
def uptoBulkEntries {H : Type} : List (Lit × DataW H) → Nat
  | [] => 0
  | x :: r => uptoBulkEntry x + uptoBulkEntries r
def uptoBulkEntry {H : Type} : Lit × DataW H → Nat
  | (.string bytes, d) => bytes.length + uptoBulk d + 1
  | (_, d) => uptoBulk d + 1
 end
def uptoSmall : (H : Type) → List (DataW H) → Bool := fun _ ds => decide (uptoBulkAll ds ≤ 1048576)
def OpenSpec.upto (s : _root_.Go.ChangeSpec) : _root_.Go.OpenSpec := { _root_.Go.OpenSpec.ofChange s with cond := some uptoSmall }

/-- 'laws.FnExactAreSheets', WHERE WHAT IT READS IS OF BULK AT MOST 1048576: true; the input reads as it did. -/
def fnExactAreSheetsUptoRow : OpenClaim := { program := "ytemnodbffkcjcaa", sum := "6320737c2d3bc4c049d53dda3bf9ac419126f1f5d171b56517f308f94a63cb10", func := "loop.example/g01027/laws.FnExactAreSheets", spec := "fnExactAreSheets", apart := false, narrowed := true }
def FnExactAreSheetsUptoSaid : Prop := fnExactAreSheetsUptoRow.holds Try.pinned (OpenSpec.upto fnExactAreSheetsSpec)

/-- 'laws.FnExactLongestRun', WHERE WHAT IT READS IS OF BULK AT MOST 1048576: true; the input reads as it did. -/
def fnExactLongestRunUptoRow : OpenClaim := { program := "ytemnodbffkcjcaa", sum := "6320737c2d3bc4c049d53dda3bf9ac419126f1f5d171b56517f308f94a63cb10", func := "loop.example/g01027/laws.FnExactLongestRun", spec := "fnExactLongestRun", apart := false, narrowed := true }
def FnExactLongestRunUptoSaid : Prop := fnExactLongestRunUptoRow.holds Try.pinned (OpenSpec.upto fnExactLongestRunSpec)

/-- 'laws.FnExactMostPresent', WHERE WHAT IT READS IS OF BULK AT MOST 1048576: true; the input reads as it did. -/
def fnExactMostPresentUptoRow : OpenClaim := { program := "ytemnodbffkcjcaa", sum := "6320737c2d3bc4c049d53dda3bf9ac419126f1f5d171b56517f308f94a63cb10", func := "loop.example/g01027/laws.FnExactMostPresent", spec := "fnExactMostPresent", apart := false, narrowed := true }
def FnExactMostPresentUptoSaid : Prop := fnExactMostPresentUptoRow.holds Try.pinned (OpenSpec.upto fnExactMostPresentSpec)

/-- 'laws.FnExactDaysPresent', WHERE WHAT IT READS IS OF BULK AT MOST 1048576: true; the input reads as it did. -/
def fnExactDaysPresentUptoRow : OpenClaim := { program := "ytemnodbffkcjcaa", sum := "6320737c2d3bc4c049d53dda3bf9ac419126f1f5d171b56517f308f94a63cb10", func := "loop.example/g01027/laws.FnExactDaysPresent", spec := "fnExactDaysPresent", apart := false, narrowed := true }
def FnExactDaysPresentUptoSaid : Prop := fnExactDaysPresentUptoRow.holds Try.pinned (OpenSpec.upto fnExactDaysPresentSpec)

/-- 'laws.FnPresence', WHERE WHAT IT READS IS OF BULK AT MOST 1048576: true; the input reads as it did. -/
def fnPresenceUptoRow : OpenClaim := { program := "ytemnodbffkcjcaa", sum := "6320737c2d3bc4c049d53dda3bf9ac419126f1f5d171b56517f308f94a63cb10", func := "loop.example/g01027/laws.FnPresence", spec := "fnPresence", apart := false, narrowed := true }
def FnPresenceUptoSaid : Prop := fnPresenceUptoRow.holds Try.pinned (OpenSpec.upto fnPresenceSpec)

/-- 'laws.FnExactAbsentOn', WHERE WHAT IT READS IS OF BULK AT MOST 1048576: true; the input reads as it did. -/
def fnExactAbsentOnUptoRow : OpenClaim := { program := "ytemnodbffkcjcaa", sum := "6320737c2d3bc4c049d53dda3bf9ac419126f1f5d171b56517f308f94a63cb10", func := "loop.example/g01027/laws.FnExactAbsentOn", spec := "fnExactAbsentOn", unfollowed := true, recurses := true, apart := false, narrowed := true }
def FnExactAbsentOnUptoSaid : Prop := fnExactAbsentOnUptoRow.holds Try.pinned (OpenSpec.upto fnExactAbsentOnSpec)

/-- 'laws.FnExactUncalledOn', WHERE WHAT IT READS IS OF BULK AT MOST 1048576: true; the input reads as it did. -/
def fnExactUncalledOnUptoRow : OpenClaim := { program := "ytemnodbffkcjcaa", sum := "6320737c2d3bc4c049d53dda3bf9ac419126f1f5d171b56517f308f94a63cb10", func := "loop.example/g01027/laws.FnExactUncalledOn", spec := "fnExactUncalledOn", unfollowed := true, recurses := true, apart := false, narrowed := true }
def FnExactUncalledOnUptoSaid : Prop := fnExactUncalledOnUptoRow.holds Try.pinned (OpenSpec.upto fnExactUncalledOnSpec)

/-- 'laws.FnExactMarkPresent', WHERE WHAT IT READS IS OF BULK AT MOST 1048576: true; the input reads as it did. -/
def fnExactMarkPresentUptoRow : OpenClaim := { program := "ytemnodbffkcjcaa", sum := "6320737c2d3bc4c049d53dda3bf9ac419126f1f5d171b56517f308f94a63cb10", func := "loop.example/g01027/laws.FnExactMarkPresent", spec := "fnExactMarkPresent", inPlace := ["slices.overlaps[loop.example/g01027/impl.Sheet]", "slices.overlaps[int64]"], apart := false, narrowed := true }
def FnExactMarkPresentUptoSaid : Prop := fnExactMarkPresentUptoRow.holds Try.pinned (OpenSpec.upto fnExactMarkPresentSpec)

/-- 'laws.FnAttendance', WHERE WHAT IT READS IS OF BULK AT MOST 1048576: true; the input reads as it did. -/
def fnAttendanceUptoRow : OpenClaim := { program := "ytemnodbffkcjcaa", sum := "6320737c2d3bc4c049d53dda3bf9ac419126f1f5d171b56517f308f94a63cb10", func := "loop.example/g01027/laws.FnAttendance", spec := "fnAttendance", inPlace := ["slices.overlaps[loop.example/g01027/impl.Sheet]", "slices.overlaps[int64]"], unfollowed := true, recurses := true, apart := false, narrowed := true }
def FnAttendanceUptoSaid : Prop := fnAttendanceUptoRow.holds Try.pinned (OpenSpec.upto fnAttendanceSpec)

end Rows
end Go.Proofs.Ytemnodbffkcjcaa
