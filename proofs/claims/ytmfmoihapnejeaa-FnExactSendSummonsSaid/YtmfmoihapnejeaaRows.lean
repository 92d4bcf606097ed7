/-
  No cell of these rows narrows 'for every input' (looked for: loops, veiled, ifaces, maps, wideKeys, modest, calm, conditions, laid).
  DERIVED. THE GIVEN ROWS OF THIS SEAT. 10 by the template 'for every input the law returns true; each argument reads behind the call as it read before'; 0 by the template 'total and deterministic' (their statements: YtmfmoihapnejeaaTotals.lean).
  GIVEN WITH THE SEED: the statements are not yours to turn. If you find one false, say at which input.
  Laid BY PROGRAM, IN A SANDBOX (cutbox-rows.mjs): the forced cells as the released guide's own fill.sh prints them over the translation d4935a2252bc6651… (all of the seat's roots in one cut). By AI agents, Wed Nov 11 2026. No macro, syntax, notation, axiom, sorry.
-/
import Derived.Test.YtmfmoihapnejeaaChecked
import GoSem.Claim
import GoSem.ClaimJoined
import GoSem.ClaimMapViews
import Derived.JoinedTies
import Derived.KernelRfl
namespace Go.Proofs.Ytmfmoihapnejeaa
/- THE CELL 'sum', in the pinned program and in every row, IS THE sha256 OF THE DUMP (.gsa) THAT YtmfmoihapnejeaaProg.lean LOADS. Nothing in Lean hashes anything: it is a label: what it is worth is what the hold of that sum in a sandbox is worth. -/
noncomputable def Try.pinned : Pinned := { name := "ytmfmoihapnejeaa", sum := "d4935a2252bc6651c01658a722ebbd213cc4e077ede6df322adc6dacbd21c0a8", checked := Try.checked }
namespace Rows
def none {H : Type} : Left H := { results := [], args := [] }

/-- 'laws.FnExactAreSummonses': WHATEVER THE INPUT: true; the input reads as it did. -/
def fnExactAreSummonsesSpec : ChangeSpec := { name := "fnExactAreSummonses", fn := fun _ => fun
  | [d] => { results := [.lit (.bool true)], args := [d] }
  | _ => none }
def fnExactAreSummonsesRow : OpenClaim := { program := "ytmfmoihapnejeaa", sum := "d4935a2252bc6651c01658a722ebbd213cc4e077ede6df322adc6dacbd21c0a8", func := "loop.example/g01027/laws.FnExactAreSummonses", spec := "fnExactAreSummonses", apart := false }
def FnExactAreSummonsesSaid : Prop := fnExactAreSummonsesRow.holds Try.pinned (OpenSpec.ofChange fnExactAreSummonsesSpec)

/-- ITS FALSE NEIGHBOUR: 'it returns false'. Refute it at one input. -/
def fnExactAreSummonsesWrong : ChangeSpec := { name := "fnExactAreSummonses", fn := fun _ => fun
  | [d] => { results := [.lit (.bool false)], args := [d] }
  | _ => none }
def FnExactAreSummonsesWrongFalsely : Prop := fnExactAreSummonsesRow.holds Try.pinned (OpenSpec.ofChange fnExactAreSummonsesWrong)

/-- 'laws.FnExactNextReminder': WHATEVER THE INPUT: true; the input reads as it did. -/
def fnExactNextReminderSpec : ChangeSpec := { name := "fnExactNextReminder", fn := fun _ => fun
  | [d1, d2] => { results := [.lit (.bool true)], args := [d1, d2] }
  | _ => none }
def fnExactNextReminderRow : OpenClaim := { program := "ytmfmoihapnejeaa", sum := "d4935a2252bc6651c01658a722ebbd213cc4e077ede6df322adc6dacbd21c0a8", func := "loop.example/g01027/laws.FnExactNextReminder", spec := "fnExactNextReminder", unfollowed := true, recurses := true, apart := false }
def FnExactNextReminderSaid : Prop := fnExactNextReminderRow.holds Try.pinned (OpenSpec.ofChange fnExactNextReminderSpec)

/-- ITS FALSE NEIGHBOUR: 'it returns false'. Refute it at one input. -/
def fnExactNextReminderWrong : ChangeSpec := { name := "fnExactNextReminder", fn := fun _ => fun
  | [d1, d2] => { results := [.lit (.bool false)], args := [d1, d2] }
  | _ => none }
def FnExactNextReminderWrongFalsely : Prop := fnExactNextReminderRow.holds Try.pinned (OpenSpec.ofChange fnExactNextReminderWrong)

/-- 'laws.FnExactOpenOn': WHATEVER THE INPUT: true; the input reads as it did. -/
def fnExactOpenOnSpec : ChangeSpec := { name := "fnExactOpenOn", fn := fun _ => fun
  | [d1, d2] => { results := [.lit (.bool true)], args := [d1, d2] }
  | _ => none }
def fnExactOpenOnRow : OpenClaim := { program := "ytmfmoihapnejeaa", sum := "d4935a2252bc6651c01658a722ebbd213cc4e077ede6df322adc6dacbd21c0a8", func := "loop.example/g01027/laws.FnExactOpenOn", spec := "fnExactOpenOn", unfollowed := true, recurses := true, apart := false }
def FnExactOpenOnSaid : Prop := fnExactOpenOnRow.holds Try.pinned (OpenSpec.ofChange fnExactOpenOnSpec)

/-- ITS FALSE NEIGHBOUR: 'it returns false'. Refute it at one input. -/
def fnExactOpenOnWrong : ChangeSpec := { name := "fnExactOpenOn", fn := fun _ => fun
  | [d1, d2] => { results := [.lit (.bool false)], args := [d1, d2] }
  | _ => none }
def FnExactOpenOnWrongFalsely : Prop := fnExactOpenOnRow.holds Try.pinned (OpenSpec.ofChange fnExactOpenOnWrong)

/-- 'laws.FnExactOverdueOn': WHATEVER THE INPUT: true; the input reads as it did. -/
def fnExactOverdueOnSpec : ChangeSpec := { name := "fnExactOverdueOn", fn := fun _ => fun
  | [d1, d2] => { results := [.lit (.bool true)], args := [d1, d2] }
  | _ => none }
def fnExactOverdueOnRow : OpenClaim := { program := "ytmfmoihapnejeaa", sum := "d4935a2252bc6651c01658a722ebbd213cc4e077ede6df322adc6dacbd21c0a8", func := "loop.example/g01027/laws.FnExactOverdueOn", spec := "fnExactOverdueOn", unfollowed := true, recurses := true, apart := false }
def FnExactOverdueOnSaid : Prop := fnExactOverdueOnRow.holds Try.pinned (OpenSpec.ofChange fnExactOverdueOnSpec)

/-- ITS FALSE NEIGHBOUR: 'it returns false'. Refute it at one input. -/
def fnExactOverdueOnWrong : ChangeSpec := { name := "fnExactOverdueOn", fn := fun _ => fun
  | [d1, d2] => { results := [.lit (.bool false)], args := [d1, d2] }
  | _ => none }
def FnExactOverdueOnWrongFalsely : Prop := fnExactOverdueOnRow.holds Try.pinned (OpenSpec.ofChange fnExactOverdueOnWrong)

/-- 'laws.FnExactAnswerSummons': WHATEVER THE INPUT: true; the input reads as it did. -/
def fnExactAnswerSummonsSpec : ChangeSpec := { name := "fnExactAnswerSummons", fn := fun _ => fun
  | [d1, d2, d3, d4] => { results := [.lit (.bool true)], args := [d1, d2, d3, d4] }
  | _ => none }
def fnExactAnswerSummonsRow : OpenClaim := { program := "ytmfmoihapnejeaa", sum := "d4935a2252bc6651c01658a722ebbd213cc4e077ede6df322adc6dacbd21c0a8", func := "loop.example/g01027/laws.FnExactAnswerSummons", spec := "fnExactAnswerSummons", apart := false }
def FnExactAnswerSummonsSaid : Prop := fnExactAnswerSummonsRow.holds Try.pinned (OpenSpec.ofChange fnExactAnswerSummonsSpec)

/-- ITS FALSE NEIGHBOUR: 'it returns false'. Refute it at one input. -/
def fnExactAnswerSummonsWrong : ChangeSpec := { name := "fnExactAnswerSummons", fn := fun _ => fun
  | [d1, d2, d3, d4] => { results := [.lit (.bool false)], args := [d1, d2, d3, d4] }
  | _ => none }
def FnExactAnswerSummonsWrongFalsely : Prop := fnExactAnswerSummonsRow.holds Try.pinned (OpenSpec.ofChange fnExactAnswerSummonsWrong)

/-- 'laws.FnExactCountAnswers': WHATEVER THE INPUT: true; the input reads as it did. -/
def fnExactCountAnswersSpec : ChangeSpec := { name := "fnExactCountAnswers", fn := fun _ => fun
  | [d1, d2] => { results := [.lit (.bool true)], args := [d1, d2] }
  | _ => none }
def fnExactCountAnswersRow : OpenClaim := { program := "ytmfmoihapnejeaa", sum := "d4935a2252bc6651c01658a722ebbd213cc4e077ede6df322adc6dacbd21c0a8", func := "loop.example/g01027/laws.FnExactCountAnswers", spec := "fnExactCountAnswers", apart := false }
def FnExactCountAnswersSaid : Prop := fnExactCountAnswersRow.holds Try.pinned (OpenSpec.ofChange fnExactCountAnswersSpec)

/-- ITS FALSE NEIGHBOUR: 'it returns false'. Refute it at one input. -/
def fnExactCountAnswersWrong : ChangeSpec := { name := "fnExactCountAnswers", fn := fun _ => fun
  | [d1, d2] => { results := [.lit (.bool false)], args := [d1, d2] }
  | _ => none }
def FnExactCountAnswersWrongFalsely : Prop := fnExactCountAnswersRow.holds Try.pinned (OpenSpec.ofChange fnExactCountAnswersWrong)

/-- 'laws.FnExactRemindersOn': WHATEVER THE INPUT: true; the input reads as it did. -/
def fnExactRemindersOnSpec : ChangeSpec := { name := "fnExactRemindersOn", fn := fun _ => fun
  | [d1, d2] => { results := [.lit (.bool true)], args := [d1, d2] }
  | _ => none }
def fnExactRemindersOnRow : OpenClaim := { program := "ytmfmoihapnejeaa", sum := "d4935a2252bc6651c01658a722ebbd213cc4e077ede6df322adc6dacbd21c0a8", func := "loop.example/g01027/laws.FnExactRemindersOn", spec := "fnExactRemindersOn", unfollowed := true, recurses := true, apart := false }
def FnExactRemindersOnSaid : Prop := fnExactRemindersOnRow.holds Try.pinned (OpenSpec.ofChange fnExactRemindersOnSpec)

/-- ITS FALSE NEIGHBOUR: 'it returns false'. Refute it at one input. -/
def fnExactRemindersOnWrong : ChangeSpec := { name := "fnExactRemindersOn", fn := fun _ => fun
  | [d1, d2] => { results := [.lit (.bool false)], args := [d1, d2] }
  | _ => none }
def FnExactRemindersOnWrongFalsely : Prop := fnExactRemindersOnRow.holds Try.pinned (OpenSpec.ofChange fnExactRemindersOnWrong)

/-- 'laws.FnReminders': WHATEVER THE INPUT: true; the input reads as it did. -/
def fnRemindersSpec : ChangeSpec := { name := "fnReminders", fn := fun _ => fun
  | [d] => { results := [.lit (.bool true)], args := [d] }
  | _ => none }
def fnRemindersRow : OpenClaim := { program := "ytmfmoihapnejeaa", sum := "d4935a2252bc6651c01658a722ebbd213cc4e077ede6df322adc6dacbd21c0a8", func := "loop.example/g01027/laws.FnReminders", spec := "fnReminders", unfollowed := true, recurses := true, apart := false }
def FnRemindersSaid : Prop := fnRemindersRow.holds Try.pinned (OpenSpec.ofChange fnRemindersSpec)

/-- ITS FALSE NEIGHBOUR: 'it returns false'. Refute it at one input. -/
def fnRemindersWrong : ChangeSpec := { name := "fnReminders", fn := fun _ => fun
  | [d] => { results := [.lit (.bool false)], args := [d] }
  | _ => none }
def FnRemindersWrongFalsely : Prop := fnRemindersRow.holds Try.pinned (OpenSpec.ofChange fnRemindersWrong)

/-- 'laws.FnExactSendSummons': WHATEVER THE INPUT: true; the input reads as it did. -/
def fnExactSendSummonsSpec : ChangeSpec := { name := "fnExactSendSummons", fn := fun _ => fun
  | [d1, d2, d3, d4, d5] => { results := [.lit (.bool true)], args := [d1, d2, d3, d4, d5] }
  | _ => none }
def fnExactSendSummonsRow : OpenClaim := { program := "ytmfmoihapnejeaa", sum := "d4935a2252bc6651c01658a722ebbd213cc4e077ede6df322adc6dacbd21c0a8", func := "loop.example/g01027/laws.FnExactSendSummons", spec := "fnExactSendSummons", inPlace := ["slices.overlaps[loop.example/g01027/impl.Summons]"], apart := false }
def FnExactSendSummonsSaid : Prop := fnExactSendSummonsRow.holds Try.pinned (OpenSpec.ofChange fnExactSendSummonsSpec)

/-- ITS FALSE NEIGHBOUR: 'it returns false'. Refute it at one input. -/
def fnExactSendSummonsWrong : ChangeSpec := { name := "fnExactSendSummons", fn := fun _ => fun
  | [d1, d2, d3, d4, d5] => { results := [.lit (.bool false)], args := [d1, d2, d3, d4, d5] }
  | _ => none }
def FnExactSendSummonsWrongFalsely : Prop := fnExactSendSummonsRow.holds Try.pinned (OpenSpec.ofChange fnExactSendSummonsWrong)

/-- 'laws.FnSummonses': WHATEVER THE INPUT: true; the input reads as it did. -/
def fnSummonsesSpec : ChangeSpec := { name := "fnSummonses", fn := fun _ => fun
  | [d] => { results := [.lit (.bool true)], args := [d] }
  | _ => none }
def fnSummonsesRow : OpenClaim := { program := "ytmfmoihapnejeaa", sum := "d4935a2252bc6651c01658a722ebbd213cc4e077ede6df322adc6dacbd21c0a8", func := "loop.example/g01027/laws.FnSummonses", spec := "fnSummonses", inPlace := ["slices.overlaps[loop.example/g01027/impl.Summons]"], unfollowed := true, recurses := true, apart := false }
def FnSummonsesSaid : Prop := fnSummonsesRow.holds Try.pinned (OpenSpec.ofChange fnSummonsesSpec)

/-- ITS FALSE NEIGHBOUR: 'it returns false'. Refute it at one input. -/
def fnSummonsesWrong : ChangeSpec := { name := "fnSummonses", fn := fun _ => fun
  | [d] => { results := [.lit (.bool false)], args := [d] }
  | _ => none }
def FnSummonsesWrongFalsely : Prop := fnSummonsesRow.holds Try.pinned (OpenSpec.ofChange fnSummonsesWrong)

/- THE SECOND FORM. 'bulk': how many values and letters a reading holds, each counted each time it is reached (what is shared counts as often as it is met; a slice's spare places count too). A statement '..UptoSaid' is the law's where the arguments, and the package variables that the reading takes, are together of bulk at most 1048576: NARROWER than '..Said'. Prove '..Said' where nothing that the law and all that it calls make is longer than what came in: it says more and counts as full. Else prove '..UptoSaid'. A law counts once. -/
mutual
def uptoBulk {H : Type} : DataW H → Nat
  | .lit (.string bytes) => bytes.length + 1
  | .lit _ => 1
  | .nil => 1
  | .ptr d => uptoBulk d + 1
  | .slice elems spare => uptoBulkAll elems + uptoBulkAll spare + 1
  | .agg parts => uptoBulkAll parts + 1
  | .iface _ d => uptoBulk d + 1
  | .map entries => uptoBulkEntries entries + 1
  | .held _ => 1
def uptoBulkAll {H : Type} : List (DataW H) → Nat
  | [] => 0
  | d :: r => uptoBulk d + uptoBulkAll r
def uptoBulkEntries {H : Type} : List (Lit × DataW H) → Nat
  | [] => 0
  | x :: r => uptoBulkEntry x + uptoBulkEntries r
def uptoBulkEntry {H : Type} : Lit × DataW H → Nat
  | (.string bytes, d) => bytes.length + uptoBulk d + 1
  | (_, d) => uptoBulk d + 1
 end
def uptoSmall : (H : Type) → List (DataW H) → Bool := fun _ ds => decide (uptoBulkAll ds ≤ 1048576)
def OpenSpec.upto (s : _root_.Go.ChangeSpec) : _root_.Go.OpenSpec := { _root_.Go.OpenSpec.ofChange s with cond := some uptoSmall }

/-- 'laws.FnExactAreSummonses', WHERE WHAT IT READS IS OF BULK AT MOST 1048576: true; the input reads as it did. -/
def fnExactAreSummonsesUptoRow : OpenClaim := { program := "ytmfmoihapnejeaa", sum := "d4935a2252bc6651c01658a722ebbd213cc4e077ede6df322adc6dacbd21c0a8", func := "loop.example/g01027/laws.FnExactAreSummonses", spec := "fnExactAreSummonses", apart := false, narrowed := true }
def FnExactAreSummonsesUptoSaid : Prop := fnExactAreSummonsesUptoRow.holds Try.pinned (OpenSpec.upto fnExactAreSummonsesSpec)

/-- 'laws.FnExactNextReminder', WHERE WHAT IT READS IS OF BULK AT MOST 1048576: true; the input reads as it did. -/
def fnExactNextReminderUptoRow : OpenClaim := { program := "ytmfmoihapnejeaa", sum := "d4935a2252bc6651c01658a722ebbd213cc4e077ede6df322adc6dacbd21c0a8", func := "loop.example/g01027/laws.FnExactNextReminder", spec := "fnExactNextReminder", unfollowed := true, recurses := true, apart := false, narrowed := true }
def FnExactNextReminderUptoSaid : Prop := fnExactNextReminderUptoRow.holds Try.pinned (OpenSpec.upto fnExactNextReminderSpec)

/-- 'laws.FnExactOpenOn', WHERE WHAT IT READS IS OF BULK AT MOST 1048576: true; the input reads as it did. -/
def fnExactOpenOnUptoRow : OpenClaim := { program := "ytmfmoihapnejeaa", sum := "d4935a2252bc6651c01658a722ebbd213cc4e077ede6df322adc6dacbd21c0a8", func := "loop.example/g01027/laws.FnExactOpenOn", spec := "fnExactOpenOn", unfollowed := true, recurses := true, apart := false, narrowed := true }
def FnExactOpenOnUptoSaid : Prop := fnExactOpenOnUptoRow.holds Try.pinned (OpenSpec.upto fnExactOpenOnSpec)

/-- 'laws.FnExactOverdueOn', WHERE WHAT IT READS IS OF BULK AT MOST 1048576: true; the input reads as it did. -/
def fnExactOverdueOnUptoRow : OpenClaim := { program := "ytmfmoihapnejeaa", sum := "d4935a2252bc6651c01658a722ebbd213cc4e077ede6df322adc6dacbd21c0a8", func := "loop.example/g01027/laws.FnExactOverdueOn", spec := "fnExactOverdueOn", unfollowed := true, recurses := true, apart := false, narrowed := true }
def FnExactOverdueOnUptoSaid : Prop := fnExactOverdueOnUptoRow.holds Try.pinned (OpenSpec.upto fnExactOverdueOnSpec)

/-- 'laws.FnExactAnswerSummons', WHERE WHAT IT READS IS OF BULK AT MOST 1048576: true; the input reads as it did. -/
def fnExactAnswerSummonsUptoRow : OpenClaim := { program := "ytmfmoihapnejeaa", sum := "d4935a2252bc6651c01658a722ebbd213cc4e077ede6df322adc6dacbd21c0a8", func := "loop.example/g01027/laws.FnExactAnswerSummons", spec := "fnExactAnswerSummons", apart := false, narrowed := true }
def FnExactAnswerSummonsUptoSaid : Prop := fnExactAnswerSummonsUptoRow.holds Try.pinned (OpenSpec.upto fnExactAnswerSummonsSpec)

/-- 'laws.FnExactCountAnswers', WHERE WHAT IT READS IS OF BULK AT MOST 1048576: true; the input reads as it did. -/
def fnExactCountAnswersUptoRow : OpenClaim := { program := "ytmfmoihapnejeaa", sum := "d4935a2252bc6651c01658a722ebbd213cc4e077ede6df322adc6dacbd21c0a8", func := "loop.example/g01027/laws.FnExactCountAnswers", spec := "fnExactCountAnswers", apart := false, narrowed := true }
def FnExactCountAnswersUptoSaid : Prop := fnExactCountAnswersUptoRow.holds Try.pinned (OpenSpec.upto fnExactCountAnswersSpec)

/-- 'laws.FnExactRemindersOn', WHERE WHAT IT READS IS OF BULK AT MOST 1048576: true; the input reads as it did. -/
def fnExactRemindersOnUptoRow : OpenClaim := { program := "ytmfmoihapnejeaa", sum := "d4935a2252bc6651c01658a722ebbd213cc4e077ede6df322adc6dacbd21c0a8", func := "loop.example/g01027/laws.FnExactRemindersOn", spec := "fnExactRemindersOn", unfollowed := true, recurses := true, apart := false, narrowed := true }
def FnExactRemindersOnUptoSaid : Prop := fnExactRemindersOnUptoRow.holds Try.pinned (OpenSpec.upto fnExactRemindersOnSpec)

/-- 'laws.FnReminders', WHERE WHAT IT READS IS OF BULK AT MOST 1048576: true; the input reads as it did. -/
def fnRemindersUptoRow : OpenClaim := { program := "ytmfmoihapnejeaa", sum := "d4935a2252bc6651c01658a722ebbd213cc4e077ede6df322adc6dacbd21c0a8", func := "loop.example/g01027/laws.FnReminders", spec := "fnReminders", unfollowed := true, recurses := true, apart := false, narrowed := true }
def FnRemindersUptoSaid : Prop := fnRemindersUptoRow.holds Try.pinned (OpenSpec.upto fnRemindersSpec)

/-- 'laws.FnExactSendSummons', WHERE WHAT IT READS IS OF BULK AT MOST 1048576: true; the input reads as it did. -/
def fnExactSendSummonsUptoRow : OpenClaim := { program := "ytmfmoihapnejeaa", sum := "d4935a2252bc6651c01658a722ebbd213cc4e077ede6df322adc6dacbd21c0a8", func := "loop.example/g01027/laws.FnExactSendSummons", spec := "fnExactSendSummons", inPlace := ["slices.overlaps[loop.example/g01027/impl.Summons]"], apart := false, narrowed := true }
def FnExactSendSummonsUptoSaid : Prop := fnExactSendSummonsUptoRow.holds Try.pinned (OpenSpec.upto fnExactSendSummonsSpec)

/-- 'laws.FnSummonses', WHERE WHAT IT READS IS OF BULK AT MOST 1048576: true; the input reads as it did. -/
def fnSummonsesUptoRow : OpenClaim := { program := "ytmfmoihapnejeaa", sum := "d4935a2252bc6651c01658a722ebbd213cc4e077ede6df322adc6dacbd21c0a8", func := "loop.example/g01027/laws.FnSummonses", spec := "fnSummonses", inPlace := ["slices.overlaps[loop.example/g01027/impl.Summons]"], unfollowed := true, recurses := true, apart := false, narrowed := true }
def FnSummonsesUptoSaid : Prop := fnSummonsesUptoRow.holds Try.pinned (OpenSpec.upto fnSummonsesSpec)

end Rows
end Go.Proofs.Ytmfmoihapnejeaa
