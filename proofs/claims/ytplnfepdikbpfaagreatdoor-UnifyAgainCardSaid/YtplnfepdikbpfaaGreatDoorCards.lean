/-
  DERIVED. GIVEN WITH THE SEED: THE CARDS: each row of YtplnfepdikbpfaaGreatDoorRows.lean that lists a variable, with what it lists TIED to the program's text (the seventh form; the later family's looks); each row that meets fmt, with fmt's text TOLD by the authors' own Lean function (tested against real Go, not proved from fmt's source: count such statements apart). THE CARD IS WHAT COUNTS. Prove the row's statement (the work); the ties are given (YtplnfepdikbpfaaGreatDoorTie.lean); close each card by the builder's one call (the guide's Derived/Test/ToyasCard.lean, 'card_holds'). Laid BY PROGRAM, IN A SANDBOX (cutbox-door.mjs). By AI agents, Wed Nov 11 2026. No macro, syntax, notation, axiom, sorry.
-/
import Derived.Test.YtplnfepdikbpfaaGreatDoorRows
import GoSem.ClaimSeven
namespace Go.Proofs.YtplnfepdikbpfaaGreatDoor
namespace Rows

/-- THE TIED CARD OF 'marginalialaw14.UnifyBinds'. -/
def unifyBindsCard : Claim7 := { stood := { row := unifyBindsRow, standIns := [], harness := (true, "57e83c14b8b0029d098d9b756682b875fbe63d0c72ea7f0c6cc09c3f3d0b8cd9"), looks := true }, kinds := [], alts := [], laidByText := true, laidKinds := [.data, .data, .data, .sentinel, .sentinel], laidTests := true, laidLooks := .later }
def UnifyBindsCardSaid : Prop := Claim7.holds Tryz.pinned (.plain (OpenSpec.ofChange unifyBindsSpec)) unifyBindsCard

/-- THE TIED CARD OF 'marginalialaw14.UnifyParses'. -/
def unifyParsesCard : Claim7 := { stood := { row := unifyParsesRow, standIns := [], harness := (true, "57e83c14b8b0029d098d9b756682b875fbe63d0c72ea7f0c6cc09c3f3d0b8cd9"), looks := true }, kinds := [], alts := [], laidByText := true, laidKinds := [.data, .data, .data, .sentinel, .sentinel], laidTests := true, laidLooks := .later }
def UnifyParsesCardSaid : Prop := Claim7.holds Tryz.pinned (.plain (OpenSpec.ofChange unifyParsesSpec)) unifyParsesCard

/-- THE TIED CARD OF 'marginalialaw14.UnifyBoth'. -/
def unifyBothCard : Claim7 := { stood := { row := unifyBothRow, standIns := [], harness := (true, "57e83c14b8b0029d098d9b756682b875fbe63d0c72ea7f0c6cc09c3f3d0b8cd9"), looks := true }, kinds := [], alts := [], laidByText := true, laidKinds := [.data, .data, .data, .sentinel, .sentinel], laidTests := true, laidLooks := .later }
def UnifyBothCardSaid : Prop := Claim7.holds Tryz.pinned (.plain (OpenSpec.ofChange unifyBothSpec)) unifyBothCard

/-- THE TIED CARD OF 'marginalialaw14.UnifyAgain'. -/
def unifyAgainCard : Claim7 := { stood := { row := unifyAgainRow, standIns := [], harness := (true, "57e83c14b8b0029d098d9b756682b875fbe63d0c72ea7f0c6cc09c3f3d0b8cd9"), looks := true }, kinds := [], alts := [], laidByText := true, laidKinds := [.data, .data, .data, .sentinel, .sentinel], laidTests := true, laidLooks := .later }
def UnifyAgainCardSaid : Prop := Claim7.holds Tryz.pinned (.plain (OpenSpec.ofChange unifyAgainSpec)) unifyAgainCard

/-- THE TIED CARD OF 'marginalialaw14.UnifyTexts'. -/
def unifyTextsCard : Claim7 := { stood := { row := unifyTextsRow, standIns := [], harness := (true, "57e83c14b8b0029d098d9b756682b875fbe63d0c72ea7f0c6cc09c3f3d0b8cd9"), looks := true }, kinds := [], alts := [], laidByText := true, laidKinds := [.data, .data, .data, .sentinel, .sentinel], laidTests := true, laidLooks := .later }
def UnifyTextsCardSaid : Prop := Claim7.holds Tryz.pinned (.plain (OpenSpec.ofChange unifyTextsSpec)) unifyTextsCard

/-- THE TIED CARD OF 'marginalialaw14.UnifyApplies'. -/
def unifyAppliesCard : Claim7 := { stood := { row := unifyAppliesRow, standIns := [], harness := (true, "57e83c14b8b0029d098d9b756682b875fbe63d0c72ea7f0c6cc09c3f3d0b8cd9"), looks := true }, kinds := [], alts := [], laidByText := true, laidKinds := [.data, .data, .data, .sentinel, .sentinel], laidTests := true, laidLooks := .later }
def UnifyAppliesCardSaid : Prop := Claim7.holds Tryz.pinned (.plain (OpenSpec.ofChange unifyAppliesSpec)) unifyAppliesCard

/-- THE TIED CARD OF 'marginalialaw14.UnifyMost'. -/
def unifyMostCard : Claim7 := { stood := { row := unifyMostRow, standIns := [], harness := (true, "57e83c14b8b0029d098d9b756682b875fbe63d0c72ea7f0c6cc09c3f3d0b8cd9"), looks := true }, kinds := [], alts := [], laidByText := true, laidKinds := [.data, .data, .data, .sentinel, .sentinel], laidTests := true, laidLooks := .later }
def UnifyMostCardSaid : Prop := Claim7.holds Tryz.pinned (.plain (OpenSpec.ofChange unifyMostSpec)) unifyMostCard

/-- THE TIED CARD OF 'marginalialaw14.UnifyInstances'. -/
def unifyInstancesCard : Claim7 := { stood := { row := unifyInstancesRow, standIns := [], harness := (true, "57e83c14b8b0029d098d9b756682b875fbe63d0c72ea7f0c6cc09c3f3d0b8cd9"), looks := true }, kinds := [], alts := [], laidByText := true, laidKinds := [.data, .data, .data, .sentinel, .sentinel], laidTests := true, laidLooks := .later }
def UnifyInstancesCardSaid : Prop := Claim7.holds Tryz.pinned (.plain (OpenSpec.ofChange unifyInstancesSpec)) unifyInstancesCard

/-- THE TIED CARD OF 'marginalialaw14.UnifyGeneral'. -/
def unifyGeneralCard : Claim7 := { stood := { row := unifyGeneralRow, standIns := [], harness := (true, "57e83c14b8b0029d098d9b756682b875fbe63d0c72ea7f0c6cc09c3f3d0b8cd9"), looks := true }, kinds := [], alts := [], laidByText := true, laidKinds := [.data, .data, .data, .sentinel, .sentinel], laidTests := true, laidLooks := .later }
def UnifyGeneralCardSaid : Prop := Claim7.holds Tryz.pinned (.plain (OpenSpec.ofChange unifyGeneralSpec)) unifyGeneralCard

/-- THE TIED CARD OF 'marginalialaw14.UnifyForms'. -/
def unifyFormsCard : Claim7 := { stood := { row := unifyFormsRow, standIns := [], harness := (true, "57e83c14b8b0029d098d9b756682b875fbe63d0c72ea7f0c6cc09c3f3d0b8cd9"), looks := true }, kinds := [], alts := [], laidByText := true, laidKinds := [.data, .data, .data, .sentinel, .sentinel], laidTests := true, laidLooks := .later }
def UnifyFormsCardSaid : Prop := Claim7.holds Tryz.pinned (.plain (OpenSpec.ofChange unifyFormsSpec)) unifyFormsCard

/-- THE TIED CARD OF 'marginalialaw14.UnifyNew'. -/
def unifyNewCard : Claim7 := { stood := { row := unifyNewRow, standIns := [], harness := (true, "57e83c14b8b0029d098d9b756682b875fbe63d0c72ea7f0c6cc09c3f3d0b8cd9"), looks := true }, kinds := [], alts := [], laidByText := true, laidKinds := [.data, .data, .data, .sentinel, .sentinel], laidTests := true, laidLooks := .later }
def UnifyNewCardSaid : Prop := Claim7.holds Tryz.pinned (.plain (OpenSpec.ofChange unifyNewSpec)) unifyNewCard

/-- THE SECOND FORM's CARD OF 'marginalialaw14.UnifyBinds'. -/
def unifyBindsUptoCard : Claim7 := { stood := { row := unifyBindsUptoRow, standIns := [], harness := (true, "57e83c14b8b0029d098d9b756682b875fbe63d0c72ea7f0c6cc09c3f3d0b8cd9"), looks := true }, kinds := [], alts := [], laidByText := true, laidKinds := [.data, .data, .data, .sentinel, .sentinel], laidTests := true, laidLooks := .later }
def UnifyBindsUptoCardSaid : Prop := Claim7.holds Tryz.pinned (.plain (OpenSpec.upto unifyBindsSpec)) unifyBindsUptoCard

/-- THE SECOND FORM's CARD OF 'marginalialaw14.UnifyParses'. -/
def unifyParsesUptoCard : Claim7 := { stood := { row := unifyParsesUptoRow, standIns := [], harness := (true, "57e83c14b8b0029d098d9b756682b875fbe63d0c72ea7f0c6cc09c3f3d0b8cd9"), looks := true }, kinds := [], alts := [], laidByText := true, laidKinds := [.data, .data, .data, .sentinel, .sentinel], laidTests := true, laidLooks := .later }
def UnifyParsesUptoCardSaid : Prop := Claim7.holds Tryz.pinned (.plain (OpenSpec.upto unifyParsesSpec)) unifyParsesUptoCard

/-- THE SECOND FORM's CARD OF 'marginalialaw14.UnifyBoth'. -/
def unifyBothUptoCard : Claim7 := { stood := { row := unifyBothUptoRow, standIns := [], harness := (true, "57e83c14b8b0029d098d9b756682b875fbe63d0c72ea7f0c6cc09c3f3d0b8cd9"), looks := true }, kinds := [], alts := [], laidByText := true, laidKinds := [.data, .data, .data, .sentinel, .sentinel], laidTests := true, laidLooks := .later }
def UnifyBothUptoCardSaid : Prop := Claim7.holds Tryz.pinned (.plain (OpenSpec.upto unifyBothSpec)) unifyBothUptoCard

/-- THE SECOND FORM's CARD OF 'marginalialaw14.UnifyAgain'. -/
def unifyAgainUptoCard : Claim7 := { stood := { row := unifyAgainUptoRow, standIns := [], harness := (true, "57e83c14b8b0029d098d9b756682b875fbe63d0c72ea7f0c6cc09c3f3d0b8cd9"), looks := true }, kinds := [], alts := [], laidByText := true, laidKinds := [.data, .data, .data, .sentinel, .sentinel], laidTests := true, laidLooks := .later }
def UnifyAgainUptoCardSaid : Prop := Claim7.holds Tryz.pinned (.plain (OpenSpec.upto unifyAgainSpec)) unifyAgainUptoCard

/-- THE SECOND FORM's CARD OF 'marginalialaw14.UnifyTexts'. -/
def unifyTextsUptoCard : Claim7 := { stood := { row := unifyTextsUptoRow, standIns := [], harness := (true, "57e83c14b8b0029d098d9b756682b875fbe63d0c72ea7f0c6cc09c3f3d0b8cd9"), looks := true }, kinds := [], alts := [], laidByText := true, laidKinds := [.data, .data, .data, .sentinel, .sentinel], laidTests := true, laidLooks := .later }
def UnifyTextsUptoCardSaid : Prop := Claim7.holds Tryz.pinned (.plain (OpenSpec.upto unifyTextsSpec)) unifyTextsUptoCard

/-- THE SECOND FORM's CARD OF 'marginalialaw14.UnifyApplies'. -/
def unifyAppliesUptoCard : Claim7 := { stood := { row := unifyAppliesUptoRow, standIns := [], harness := (true, "57e83c14b8b0029d098d9b756682b875fbe63d0c72ea7f0c6cc09c3f3d0b8cd9"), looks := true }, kinds := [], alts := [], laidByText := true, laidKinds := [.data, .data, .data, .sentinel, .sentinel], laidTests := true, laidLooks := .later }
def UnifyAppliesUptoCardSaid : Prop := Claim7.holds Tryz.pinned (.plain (OpenSpec.upto unifyAppliesSpec)) unifyAppliesUptoCard

/-- THE SECOND FORM's CARD OF 'marginalialaw14.UnifyMost'. -/
def unifyMostUptoCard : Claim7 := { stood := { row := unifyMostUptoRow, standIns := [], harness := (true, "57e83c14b8b0029d098d9b756682b875fbe63d0c72ea7f0c6cc09c3f3d0b8cd9"), looks := true }, kinds := [], alts := [], laidByText := true, laidKinds := [.data, .data, .data, .sentinel, .sentinel], laidTests := true, laidLooks := .later }
def UnifyMostUptoCardSaid : Prop := Claim7.holds Tryz.pinned (.plain (OpenSpec.upto unifyMostSpec)) unifyMostUptoCard

/-- THE SECOND FORM's CARD OF 'marginalialaw14.UnifyInstances'. -/
def unifyInstancesUptoCard : Claim7 := { stood := { row := unifyInstancesUptoRow, standIns := [], harness := (true, "57e83c14b8b0029d098d9b756682b875fbe63d0c72ea7f0c6cc09c3f3d0b8cd9"), looks := true }, kinds := [], alts := [], laidByText := true, laidKinds := [.data, .data, .data, .sentinel, .sentinel], laidTests := true, laidLooks := .later }
def UnifyInstancesUptoCardSaid : Prop := Claim7.holds Tryz.pinned (.plain (OpenSpec.upto unifyInstancesSpec)) unifyInstancesUptoCard

/-- THE SECOND FORM's CARD OF 'marginalialaw14.UnifyGeneral'. -/
def unifyGeneralUptoCard : Claim7 := { stood := { row := unifyGeneralUptoRow, standIns := [], harness := (true, "57e83c14b8b0029d098d9b756682b875fbe63d0c72ea7f0c6cc09c3f3d0b8cd9"), looks := true }, kinds := [], alts := [], laidByText := true, laidKinds := [.data, .data, .data, .sentinel, .sentinel], laidTests := true, laidLooks := .later }
def UnifyGeneralUptoCardSaid : Prop := Claim7.holds Tryz.pinned (.plain (OpenSpec.upto unifyGeneralSpec)) unifyGeneralUptoCard

/-- THE SECOND FORM's CARD OF 'marginalialaw14.UnifyForms'. -/
def unifyFormsUptoCard : Claim7 := { stood := { row := unifyFormsUptoRow, standIns := [], harness := (true, "57e83c14b8b0029d098d9b756682b875fbe63d0c72ea7f0c6cc09c3f3d0b8cd9"), looks := true }, kinds := [], alts := [], laidByText := true, laidKinds := [.data, .data, .data, .sentinel, .sentinel], laidTests := true, laidLooks := .later }
def UnifyFormsUptoCardSaid : Prop := Claim7.holds Tryz.pinned (.plain (OpenSpec.upto unifyFormsSpec)) unifyFormsUptoCard

/-- THE SECOND FORM's CARD OF 'marginalialaw14.UnifyNew'. -/
def unifyNewUptoCard : Claim7 := { stood := { row := unifyNewUptoRow, standIns := [], harness := (true, "57e83c14b8b0029d098d9b756682b875fbe63d0c72ea7f0c6cc09c3f3d0b8cd9"), looks := true }, kinds := [], alts := [], laidByText := true, laidKinds := [.data, .data, .data, .sentinel, .sentinel], laidTests := true, laidLooks := .later }
def UnifyNewUptoCardSaid : Prop := Claim7.holds Tryz.pinned (.plain (OpenSpec.upto unifyNewSpec)) unifyNewUptoCard
end Rows
end Go.Proofs.YtplnfepdikbpfaaGreatDoor
