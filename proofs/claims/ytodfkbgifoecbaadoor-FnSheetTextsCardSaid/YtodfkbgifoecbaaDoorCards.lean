/-
  DERIVED. GIVEN WITH THE SEED: THE CARDS: each row of YtodfkbgifoecbaaDoorRows.lean that lists a variable, with what it lists TIED to the program's text (the seventh form; the later family's looks); each row that meets fmt, with fmt's text TOLD by the authors' own Lean function (tested against real Go, not proved from fmt's source: count such statements apart). THE CARD IS WHAT COUNTS. Prove the row's statement (the work); the ties are given (YtodfkbgifoecbaaDoorTie.lean); close each card by the builder's one call (the guide's Derived/Test/ToyasCard.lean, 'card_holds'). Laid BY PROGRAM, IN A SANDBOX (cutbox-door.mjs). By AI agents, Wed Nov 11 2026. No macro, syntax, notation, axiom, sorry.
-/
import Derived.Test.YtodfkbgifoecbaaDoorRows
import GoSem.ClaimSeven
namespace Go.Proofs.YtodfkbgifoecbaaDoor
namespace Rows

/-- THE TIED CARD OF 'laws.FnExactSheetText'. -/
def fnExactSheetTextCard : Claim7 := { stood := { row := fnExactSheetTextRow, standIns := [], harness := (true, "fa16d4e35b260b6db7993b93d24e7b3ee395b0c5e7c77deb20eceee070298250"), looks := true }, kinds := [], alts := [], laidByText := true, laidKinds := [.data, .data, .data], laidTests := true, laidLooks := .later }
def FnExactSheetTextCardSaid : Prop := Claim7.holds Tryd.pinned (.plain (OpenSpec.ofChange fnExactSheetTextSpec)) fnExactSheetTextCard

/-- THE TIED CARD OF 'laws.FnExactReadSheet'. -/
def fnExactReadSheetCard : Claim7 := { stood := { row := fnExactReadSheetRow, standIns := [], harness := (true, "fa16d4e35b260b6db7993b93d24e7b3ee395b0c5e7c77deb20eceee070298250"), looks := true }, kinds := [], alts := [], laidByText := true, laidKinds := [.data, .data, .data, .data, .sentinel, .sentinel, .pinned], laidTests := true, laidLooks := .later }
def FnExactReadSheetCardSaid : Prop := Claim7.holds Tryd.pinned (.plain (OpenSpec.ofChange fnExactReadSheetSpec)) fnExactReadSheetCard

/-- THE TIED CARD OF 'laws.FnSheetTexts'. -/
def fnSheetTextsCard : Claim7 := { stood := { row := fnSheetTextsRow, standIns := [], harness := (true, "fa16d4e35b260b6db7993b93d24e7b3ee395b0c5e7c77deb20eceee070298250"), looks := true }, kinds := [], alts := [], laidByText := true, laidKinds := [.data, .data, .data, .data, .sentinel, .sentinel, .pinned], laidTests := true, laidLooks := .later }
def FnSheetTextsCardSaid : Prop := Claim7.holds Tryd.pinned (.plain (OpenSpec.ofChange fnSheetTextsSpec)) fnSheetTextsCard

/-- THE TIED CARD OF 'laws.FnExactPoolText'. -/
def fnExactPoolTextCard : Claim7 := { stood := { row := fnExactPoolTextRow, standIns := [], harness := (true, "fa16d4e35b260b6db7993b93d24e7b3ee395b0c5e7c77deb20eceee070298250"), looks := true }, kinds := [], alts := [], laidByText := true, laidKinds := [.data, .data, .data], laidTests := true, laidLooks := .later }
def FnExactPoolTextCardSaid : Prop := Claim7.holds Tryd.pinned (.plain (OpenSpec.ofChange fnExactPoolTextSpec)) fnExactPoolTextCard

/-- THE TIED CARD OF 'laws.FnExactReadPool'. -/
def fnExactReadPoolCard : Claim7 := { stood := { row := fnExactReadPoolRow, standIns := [], harness := (true, "fa16d4e35b260b6db7993b93d24e7b3ee395b0c5e7c77deb20eceee070298250"), looks := true }, kinds := [], alts := [], laidByText := true, laidKinds := [.data, .data, .data, .data, .sentinel, .sentinel, .pinned], laidTests := true, laidLooks := .later }
def FnExactReadPoolCardSaid : Prop := Claim7.holds Tryd.pinned (.plain (OpenSpec.ofChange fnExactReadPoolSpec)) fnExactReadPoolCard

/-- THE SECOND FORM's CARD OF 'laws.FnExactSheetText'. -/
def fnExactSheetTextUptoCard : Claim7 := { stood := { row := fnExactSheetTextUptoRow, standIns := [], harness := (true, "fa16d4e35b260b6db7993b93d24e7b3ee395b0c5e7c77deb20eceee070298250"), looks := true }, kinds := [], alts := [], laidByText := true, laidKinds := [.data, .data, .data], laidTests := true, laidLooks := .later }
def FnExactSheetTextUptoCardSaid : Prop := Claim7.holds Tryd.pinned (.plain (OpenSpec.upto fnExactSheetTextSpec)) fnExactSheetTextUptoCard

/-- THE SECOND FORM's CARD OF 'laws.FnExactReadSheet'. -/
def fnExactReadSheetUptoCard : Claim7 := { stood := { row := fnExactReadSheetUptoRow, standIns := [], harness := (true, "fa16d4e35b260b6db7993b93d24e7b3ee395b0c5e7c77deb20eceee070298250"), looks := true }, kinds := [], alts := [], laidByText := true, laidKinds := [.data, .data, .data, .data, .sentinel, .sentinel, .pinned], laidTests := true, laidLooks := .later }
def FnExactReadSheetUptoCardSaid : Prop := Claim7.holds Tryd.pinned (.plain (OpenSpec.upto fnExactReadSheetSpec)) fnExactReadSheetUptoCard

/-- THE SECOND FORM's CARD OF 'laws.FnSheetTexts'. -/
def fnSheetTextsUptoCard : Claim7 := { stood := { row := fnSheetTextsUptoRow, standIns := [], harness := (true, "fa16d4e35b260b6db7993b93d24e7b3ee395b0c5e7c77deb20eceee070298250"), looks := true }, kinds := [], alts := [], laidByText := true, laidKinds := [.data, .data, .data, .data, .sentinel, .sentinel, .pinned], laidTests := true, laidLooks := .later }
def FnSheetTextsUptoCardSaid : Prop := Claim7.holds Tryd.pinned (.plain (OpenSpec.upto fnSheetTextsSpec)) fnSheetTextsUptoCard

/-- THE SECOND FORM's CARD OF 'laws.FnExactPoolText'. -/
def fnExactPoolTextUptoCard : Claim7 := { stood := { row := fnExactPoolTextUptoRow, standIns := [], harness := (true, "fa16d4e35b260b6db7993b93d24e7b3ee395b0c5e7c77deb20eceee070298250"), looks := true }, kinds := [], alts := [], laidByText := true, laidKinds := [.data, .data, .data], laidTests := true, laidLooks := .later }
def FnExactPoolTextUptoCardSaid : Prop := Claim7.holds Tryd.pinned (.plain (OpenSpec.upto fnExactPoolTextSpec)) fnExactPoolTextUptoCard

/-- THE SECOND FORM's CARD OF 'laws.FnExactReadPool'. -/
def fnExactReadPoolUptoCard : Claim7 := { stood := { row := fnExactReadPoolUptoRow, standIns := [], harness := (true, "fa16d4e35b260b6db7993b93d24e7b3ee395b0c5e7c77deb20eceee070298250"), looks := true }, kinds := [], alts := [], laidByText := true, laidKinds := [.data, .data, .data, .data, .sentinel, .sentinel, .pinned], laidTests := true, laidLooks := .later }
def FnExactReadPoolUptoCardSaid : Prop := Claim7.holds Tryd.pinned (.plain (OpenSpec.upto fnExactReadPoolSpec)) fnExactReadPoolUptoCard
end Rows
end Go.Proofs.YtodfkbgifoecbaaDoor
