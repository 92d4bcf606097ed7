/-
  No cell of these rows narrows 'for every input' (looked for: loops, veiled, ifaces, maps, wideKeys, modest, calm, conditions, laid).
  DERIVED. THE GIVEN ROWS OF THIS SEAT. 6 by the template 'for every input the law returns true; each argument reads behind the call as it read before'; 0 by the template 'total and deterministic' (their statements: YtiflpihjffhfhaaTotals.lean).
  GIVEN WITH THE SEED: the statements are not yours to turn. If you find one false, say at which input.
  Laid BY PROGRAM, IN A SANDBOX (cutbox-rows.mjs): the forced cells as the released guide's own fill.sh prints them over the translation 831045c64aaefc27… (all of the seat's roots in one cut). By AI agents, Wed Nov 11 2026. No macro, syntax, notation, axiom, sorry.
-/
import Derived.Test.YtiflpihjffhfhaaChecked
import GoSem.Claim
import GoSem.ClaimJoined
import GoSem.ClaimMapViews
import Derived.JoinedTies
import Derived.KernelRfl
namespace Go.Proofs.Ytiflpihjffhfhaa
/- THE CELL 'sum', in the pinned program and in every row, IS THE sha256 OF THE DUMP (.gsa) THAT YtiflpihjffhfhaaProg.lean LOADS. Nothing in Lean hashes anything: it is a label: what it is worth is what the hold of that sum in a sandbox is worth. -/
noncomputable def Try.pinned : Pinned := { name := "ytiflpihjffhfhaa", sum := "831045c64aaefc27a25aa3503e6031ef1e50888c9edfe84c8462d1c806e2dd69", checked := Try.checked }
namespace Rows
def none {H : Type} : Left H := { results := [], args := [] }

/-- 'laws.FnCalls': WHATEVER THE INPUT: true; the input reads as it did. -/
def fnCallsSpec : ChangeSpec := { name := "fnCalls", fn := fun _ => fun
  | [d] => { results := [.lit (.bool true)], args := [d] }
  | _ => none }
def fnCallsRow : OpenClaim := { program := "ytiflpihjffhfhaa", sum := "831045c64aaefc27a25aa3503e6031ef1e50888c9edfe84c8462d1c806e2dd69", func := "loop.example/g01027/laws.FnCalls", spec := "fnCalls", inPlace := ["slices.overlaps[loop.example/g01027/impl.Call]"], apart := false }
def FnCallsSaid : Prop := fnCallsRow.holds Try.pinned (OpenSpec.ofChange fnCallsSpec)

/-- ITS FALSE NEIGHBOUR: 'it returns false'. Refute it at one input. -/
def fnCallsWrong : ChangeSpec := { name := "fnCalls", fn := fun _ => fun
  | [d] => { results := [.lit (.bool false)], args := [d] }
  | _ => none }
def FnCallsWrongFalsely : Prop := fnCallsRow.holds Try.pinned (OpenSpec.ofChange fnCallsWrong)

/-- 'laws.FnRoomForCalls': WHATEVER THE INPUT: true; the input reads as it did. -/
def fnRoomForCallsSpec : ChangeSpec := { name := "fnRoomForCalls", fn := fun _ => fun
  | [d] => { results := [.lit (.bool true)], args := [d] }
  | _ => none }
def fnRoomForCallsRow : OpenClaim := { program := "ytiflpihjffhfhaa", sum := "831045c64aaefc27a25aa3503e6031ef1e50888c9edfe84c8462d1c806e2dd69", func := "loop.example/g01027/laws.FnRoomForCalls", spec := "fnRoomForCalls", recurses := true, apart := false }
def FnRoomForCallsSaid : Prop := fnRoomForCallsRow.holds Try.pinned (OpenSpec.ofChange fnRoomForCallsSpec)

/-- ITS FALSE NEIGHBOUR: 'it returns false'. Refute it at one input. -/
def fnRoomForCallsWrong : ChangeSpec := { name := "fnRoomForCalls", fn := fun _ => fun
  | [d] => { results := [.lit (.bool false)], args := [d] }
  | _ => none }
def FnRoomForCallsWrongFalsely : Prop := fnRoomForCallsRow.holds Try.pinned (OpenSpec.ofChange fnRoomForCallsWrong)

/-- 'laws.FnReminders': WHATEVER THE INPUT: true; the input reads as it did. -/
def fnRemindersSpec : ChangeSpec := { name := "fnReminders", fn := fun _ => fun
  | [d] => { results := [.lit (.bool true)], args := [d] }
  | _ => none }
def fnRemindersRow : OpenClaim := { program := "ytiflpihjffhfhaa", sum := "831045c64aaefc27a25aa3503e6031ef1e50888c9edfe84c8462d1c806e2dd69", func := "loop.example/g01027/laws.FnReminders", spec := "fnReminders", unfollowed := true, recurses := true, apart := false }
def FnRemindersSaid : Prop := fnRemindersRow.holds Try.pinned (OpenSpec.ofChange fnRemindersSpec)

/-- ITS FALSE NEIGHBOUR: 'it returns false'. Refute it at one input. -/
def fnRemindersWrong : ChangeSpec := { name := "fnReminders", fn := fun _ => fun
  | [d] => { results := [.lit (.bool false)], args := [d] }
  | _ => none }
def FnRemindersWrongFalsely : Prop := fnRemindersRow.holds Try.pinned (OpenSpec.ofChange fnRemindersWrong)

/-- 'laws.FnSummonses': WHATEVER THE INPUT: true; the input reads as it did. -/
def fnSummonsesSpec : ChangeSpec := { name := "fnSummonses", fn := fun _ => fun
  | [d] => { results := [.lit (.bool true)], args := [d] }
  | _ => none }
def fnSummonsesRow : OpenClaim := { program := "ytiflpihjffhfhaa", sum := "831045c64aaefc27a25aa3503e6031ef1e50888c9edfe84c8462d1c806e2dd69", func := "loop.example/g01027/laws.FnSummonses", spec := "fnSummonses", inPlace := ["slices.overlaps[loop.example/g01027/impl.Summons]"], unfollowed := true, recurses := true, apart := false }
def FnSummonsesSaid : Prop := fnSummonsesRow.holds Try.pinned (OpenSpec.ofChange fnSummonsesSpec)

/-- ITS FALSE NEIGHBOUR: 'it returns false'. Refute it at one input. -/
def fnSummonsesWrong : ChangeSpec := { name := "fnSummonses", fn := fun _ => fun
  | [d] => { results := [.lit (.bool false)], args := [d] }
  | _ => none }
def FnSummonsesWrongFalsely : Prop := fnSummonsesRow.holds Try.pinned (OpenSpec.ofChange fnSummonsesWrong)

/-- 'laws.FnTerms': WHATEVER THE INPUT: true; the input reads as it did. -/
def fnTermsSpec : ChangeSpec := { name := "fnTerms", fn := fun _ => fun
  | [d] => { results := [.lit (.bool true)], args := [d] }
  | _ => none }
def fnTermsRow : OpenClaim := { program := "ytiflpihjffhfhaa", sum := "831045c64aaefc27a25aa3503e6031ef1e50888c9edfe84c8462d1c806e2dd69", func := "loop.example/g01027/laws.FnTerms", spec := "fnTerms", apart := false }
def FnTermsSaid : Prop := fnTermsRow.holds Try.pinned (OpenSpec.ofChange fnTermsSpec)

/-- ITS FALSE NEIGHBOUR: 'it returns false'. Refute it at one input. -/
def fnTermsWrong : ChangeSpec := { name := "fnTerms", fn := fun _ => fun
  | [d] => { results := [.lit (.bool false)], args := [d] }
  | _ => none }
def FnTermsWrongFalsely : Prop := fnTermsRow.holds Try.pinned (OpenSpec.ofChange fnTermsWrong)

/-- 'laws.FnServing': WHATEVER THE INPUT: true; the input reads as it did. -/
def fnServingSpec : ChangeSpec := { name := "fnServing", fn := fun _ => fun
  | [d] => { results := [.lit (.bool true)], args := [d] }
  | _ => none }
def fnServingRow : OpenClaim := { program := "ytiflpihjffhfhaa", sum := "831045c64aaefc27a25aa3503e6031ef1e50888c9edfe84c8462d1c806e2dd69", func := "loop.example/g01027/laws.FnServing", spec := "fnServing", recurses := true, apart := false }
def FnServingSaid : Prop := fnServingRow.holds Try.pinned (OpenSpec.ofChange fnServingSpec)

/-- ITS FALSE NEIGHBOUR: 'it returns false'. Refute it at one input. -/
def fnServingWrong : ChangeSpec := { name := "fnServing", fn := fun _ => fun
  | [d] => { results := [.lit (.bool false)], args := [d] }
  | _ => none }
def FnServingWrongFalsely : Prop := fnServingRow.holds Try.pinned (OpenSpec.ofChange fnServingWrong)

/- THE SECOND FORM. 'bulk': how many values and letters a reading holds, each counted each time it is reached (what is shared counts as often as it is met; a slice's spare places count too). A statement '..UptoSaid' is the law's where the arguments, and the package variables that the reading takes, are together of bulk at most 1048576: NARROWER than '..Said'. Prove '..Said' where nothing that the law and all that it calls make is longer than what came in: it says more and counts as full. Else prove '..UptoSaid'. A law counts once. -/
mutual
def uptoBulk {H : Type} : DataW H → Nat
  | .lit (.string bytes) => bytes.length + 1
  | .lit _ => 1
  | .nil => 1
  | .ptr d => uptoBulk d + 1
  | .slice elems spare => uptoBulkAll elems + uptoBulkAll spare + 1
  | .agg parts => uptoBulkAll parts + 1
  | .iface _ d => uptoBulk d + 1
  | .map entries => uptoBulkEntries entries + 1
  | .held _ => 1
def uptoBulkAll {H : Type} : List (DataW H) → Nat
  | [] => 0
  | d :: r => uptoBulk d + uptoBulkAll r
def uptoBulkEntries {H : Type} : List (Lit × DataW H) → Nat
  | [] => 0
  | x :: r => uptoBulkEntry x + uptoBulkEntries r
def uptoBulkEntry {H : Type} : Lit × DataW H → Nat
  | (.string bytes, d) => bytes.length + uptoBulk d + 1
  | (_, d) => uptoBulk d + 1
 end
def uptoSmall : (H : Type) → List (DataW H) → Bool := fun _ ds => decide (uptoBulkAll ds ≤ 1048576)
def OpenSpec.upto (s : _root_.Go.ChangeSpec) : _root_.Go.OpenSpec := { _root_.Go.OpenSpec.ofChange s with cond := some uptoSmall }

/-- 'laws.FnCalls', WHERE WHAT IT READS IS OF BULK AT MOST 1048576: true; the input reads as it did. -/
def fnCallsUptoRow : OpenClaim := { program := "ytiflpihjffhfhaa", sum := "831045c64aaefc27a25aa3503e6031ef1e50888c9edfe84c8462d1c806e2dd69", func := "loop.example/g01027/laws.FnCalls", spec := "fnCalls", inPlace := ["slices.overlaps[loop.example/g01027/impl.Call]"], apart := false, narrowed := true }
def FnCallsUptoSaid : Prop := fnCallsUptoRow.holds Try.pinned (OpenSpec.upto fnCallsSpec)

/-- 'laws.FnRoomForCalls', WHERE WHAT IT READS IS OF BULK AT MOST 1048576: true; the input reads as it did. -/
def fnRoomForCallsUptoRow : OpenClaim := { program := "ytiflpihjffhfhaa", sum := "831045c64aaefc27a25aa3503e6031ef1e50888c9edfe84c8462d1c806e2dd69", func := "loop.example/g01027/laws.FnRoomForCalls", spec := "fnRoomForCalls", recurses := true, apart := false, narrowed := true }
def FnRoomForCallsUptoSaid : Prop := fnRoomForCallsUptoRow.holds Try.pinned (OpenSpec.upto fnRoomForCallsSpec)

/-- 'laws.FnReminders', WHERE WHAT IT READS IS OF BULK AT MOST 1048576: true; the input reads as it did. -/
def fnRemindersUptoRow : OpenClaim := { program := "ytiflpihjffhfhaa", sum := "831045c64aaefc27a25aa3503e6031ef1e50888c9edfe84c8462d1c806e2dd69", func := "loop.example/g01027/laws.FnReminders", spec := "fnReminders", unfollowed := true, recurses := true, apart := false, narrowed := true }
def FnRemindersUptoSaid : Prop := fnRemindersUptoRow.holds Try.pinned (OpenSpec.upto fnRemindersSpec)

/-- 'laws.FnSummonses', WHERE WHAT IT READS IS OF BULK AT MOST 1048576: true; the input reads as it did. -/
def fnSummonsesUptoRow : OpenClaim := { program := "ytiflpihjffhfhaa", sum := "831045c64aaefc27a25aa3503e6031ef1e50888c9edfe84c8462d1c806e2dd69", func := "loop.example/g01027/laws.FnSummonses", spec := "fnSummonses", inPlace := ["slices.overlaps[loop.example/g01027/impl.Summons]"], unfollowed := true, recurses := true, apart := false, narrowed := true }
def FnSummonsesUptoSaid : Prop := fnSummonsesUptoRow.holds Try.pinned (OpenSpec.upto fnSummonsesSpec)

/-- 'laws.FnTerms', WHERE WHAT IT READS IS OF BULK AT MOST 1048576: true; the input reads as it did. -/
def fnTermsUptoRow : OpenClaim := { program := "ytiflpihjffhfhaa", sum := "831045c64aaefc27a25aa3503e6031ef1e50888c9edfe84c8462d1c806e2dd69", func := "loop.example/g01027/laws.FnTerms", spec := "fnTerms", apart := false, narrowed := true }
def FnTermsUptoSaid : Prop := fnTermsUptoRow.holds Try.pinned (OpenSpec.upto fnTermsSpec)

/-- 'laws.FnServing', WHERE WHAT IT READS IS OF BULK AT MOST 1048576: true; the input reads as it did. -/
def fnServingUptoRow : OpenClaim := { program := "ytiflpihjffhfhaa", sum := "831045c64aaefc27a25aa3503e6031ef1e50888c9edfe84c8462d1c806e2dd69", func := "loop.example/g01027/laws.FnServing", spec := "fnServing", recurses := true, apart := false, narrowed := true }
def FnServingUptoSaid : Prop := fnServingUptoRow.holds Try.pinned (OpenSpec.upto fnServingSpec)

end Rows
end Go.Proofs.Ytiflpihjffhfhaa
