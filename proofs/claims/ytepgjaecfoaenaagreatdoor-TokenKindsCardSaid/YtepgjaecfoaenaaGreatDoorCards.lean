/-
  DERIVED. GIVEN WITH THE SEED: THE CARDS: each row of YtepgjaecfoaenaaGreatDoorRows.lean that lists a variable, with what it lists TIED to the program's text (the seventh form; the later family's looks); each row that meets fmt, with fmt's text TOLD by the authors' own Lean function (tested against real Go, not proved from fmt's source: count such statements apart). THE CARD IS WHAT COUNTS. Prove the row's statement (the work); the ties are given (YtepgjaecfoaenaaGreatDoorTie.lean); close each card by the builder's one call (the guide's Derived/Test/ToyasCard.lean, 'card_holds'). Laid BY PROGRAM, IN A SANDBOX (cutbox-door.mjs). By AI agents, Wed Nov 11 2026. No macro, syntax, notation, axiom, sorry.
-/
import Derived.Test.YtepgjaecfoaenaaGreatDoorRows
import GoSem.ClaimSeven
namespace Go.Proofs.YtepgjaecfoaenaaGreatDoor
namespace Rows

/-- THE TIED CARD OF 'marginalialaw03.TokenQuotes'. -/
def tokenQuotesCard : Claim7 := { stood := { row := tokenQuotesRow, standIns := [], harness := (true, "11b168bb100c9f234a1e4ca73b025002a766741cfa5c19e419231e2a505e141c"), looks := true }, kinds := [], alts := [], laidByText := true, laidKinds := [.data, .data, .data, .sentinel, .sentinel], laidTests := true, laidLooks := .later }
def TokenQuotesCardSaid : Prop := Claim7.holds Tryz.pinned (.plain (OpenSpec.ofChange tokenQuotesSpec)) tokenQuotesCard

/-- THE TIED CARD OF 'marginalialaw03.TokenStrings'. -/
def tokenStringsCard : Claim7 := { stood := { row := tokenStringsRow, standIns := [], harness := (true, "11b168bb100c9f234a1e4ca73b025002a766741cfa5c19e419231e2a505e141c"), looks := true }, kinds := [], alts := [], laidByText := true, laidKinds := [.data, .data, .data, .sentinel, .sentinel], laidTests := true, laidLooks := .later }
def TokenStringsCardSaid : Prop := Claim7.holds Tryz.pinned (.plain (OpenSpec.ofChange tokenStringsSpec)) tokenStringsCard

/-- THE TIED CARD OF 'marginalialaw03.TokenLines'. -/
def tokenLinesCard : Claim7 := { stood := { row := tokenLinesRow, standIns := [], harness := (true, "11b168bb100c9f234a1e4ca73b025002a766741cfa5c19e419231e2a505e141c"), looks := true }, kinds := [], alts := [], laidByText := true, laidKinds := [.data, .data, .data, .sentinel, .sentinel], laidTests := true, laidLooks := .later }
def TokenLinesCardSaid : Prop := Claim7.holds Tryz.pinned (.plain (OpenSpec.ofChange tokenLinesSpec)) tokenLinesCard

/-- THE TIED CARD OF 'marginalialaw03.TokenNeighbours'. -/
def tokenNeighboursCard : Claim7 := { stood := { row := tokenNeighboursRow, standIns := [], harness := (true, "11b168bb100c9f234a1e4ca73b025002a766741cfa5c19e419231e2a505e141c"), looks := true }, kinds := [], alts := [], laidByText := true, laidKinds := [.data, .data, .data, .sentinel, .sentinel], laidTests := true, laidLooks := .later }
def TokenNeighboursCardSaid : Prop := Claim7.holds Tryz.pinned (.plain (OpenSpec.ofChange tokenNeighboursSpec)) tokenNeighboursCard

/-- THE TIED CARD OF 'marginalialaw03.TokenWhole'. -/
def tokenWholeCard : Claim7 := { stood := { row := tokenWholeRow, standIns := [], harness := (true, "11b168bb100c9f234a1e4ca73b025002a766741cfa5c19e419231e2a505e141c"), looks := true }, kinds := [], alts := [], laidByText := true, laidKinds := [.data, .data, .data, .sentinel, .sentinel], laidTests := true, laidLooks := .later }
def TokenWholeCardSaid : Prop := Claim7.holds Tryz.pinned (.plain (OpenSpec.ofChange tokenWholeSpec)) tokenWholeCard

/-- THE TIED CARD OF 'marginalialaw03.TokenParts'. -/
def tokenPartsCard : Claim7 := { stood := { row := tokenPartsRow, standIns := [], harness := (true, "11b168bb100c9f234a1e4ca73b025002a766741cfa5c19e419231e2a505e141c"), looks := true }, kinds := [], alts := [], laidByText := true, laidKinds := [.data, .data, .data, .sentinel, .sentinel], laidTests := true, laidLooks := .later }
def TokenPartsCardSaid : Prop := Claim7.holds Tryz.pinned (.plain (OpenSpec.ofChange tokenPartsSpec)) tokenPartsCard

/-- THE TIED CARD OF 'marginalialaw03.TokenLexes'. -/
def tokenLexesCard : Claim7 := { stood := { row := tokenLexesRow, standIns := [], harness := (true, "11b168bb100c9f234a1e4ca73b025002a766741cfa5c19e419231e2a505e141c"), looks := true }, kinds := [], alts := [], laidByText := true, laidKinds := [.data, .data, .data, .sentinel, .sentinel], laidTests := true, laidLooks := .later }
def TokenLexesCardSaid : Prop := Claim7.holds Tryz.pinned (.plain (OpenSpec.ofChange tokenLexesSpec)) tokenLexesCard

/-- THE TIED CARD OF 'marginalialaw03.TokenKinds'. -/
def tokenKindsCard : Claim7 := { stood := { row := tokenKindsRow, standIns := [], harness := (true, "11b168bb100c9f234a1e4ca73b025002a766741cfa5c19e419231e2a505e141c"), looks := true }, kinds := [], alts := [], laidByText := true, laidKinds := [.data, .data, .data, .sentinel, .sentinel], laidTests := true, laidLooks := .later }
def TokenKindsCardSaid : Prop := Claim7.holds Tryz.pinned (.plain (OpenSpec.ofChange tokenKindsSpec)) tokenKindsCard

/-- THE TIED CARD OF 'marginalialaw03.TokenTexts'. -/
def tokenTextsCard : Claim7 := { stood := { row := tokenTextsRow, standIns := [], harness := (true, "11b168bb100c9f234a1e4ca73b025002a766741cfa5c19e419231e2a505e141c"), looks := true }, kinds := [], alts := [], laidByText := true, laidKinds := [.data, .data, .data, .sentinel, .sentinel], laidTests := true, laidLooks := .later }
def TokenTextsCardSaid : Prop := Claim7.holds Tryz.pinned (.plain (OpenSpec.ofChange tokenTextsSpec)) tokenTextsCard

/-- THE SECOND FORM's CARD OF 'marginalialaw03.TokenQuotes'. -/
def tokenQuotesUptoCard : Claim7 := { stood := { row := tokenQuotesUptoRow, standIns := [], harness := (true, "11b168bb100c9f234a1e4ca73b025002a766741cfa5c19e419231e2a505e141c"), looks := true }, kinds := [], alts := [], laidByText := true, laidKinds := [.data, .data, .data, .sentinel, .sentinel], laidTests := true, laidLooks := .later }
def TokenQuotesUptoCardSaid : Prop := Claim7.holds Tryz.pinned (.plain (OpenSpec.upto tokenQuotesSpec)) tokenQuotesUptoCard

/-- THE SECOND FORM's CARD OF 'marginalialaw03.TokenStrings'. -/
def tokenStringsUptoCard : Claim7 := { stood := { row := tokenStringsUptoRow, standIns := [], harness := (true, "11b168bb100c9f234a1e4ca73b025002a766741cfa5c19e419231e2a505e141c"), looks := true }, kinds := [], alts := [], laidByText := true, laidKinds := [.data, .data, .data, .sentinel, .sentinel], laidTests := true, laidLooks := .later }
def TokenStringsUptoCardSaid : Prop := Claim7.holds Tryz.pinned (.plain (OpenSpec.upto tokenStringsSpec)) tokenStringsUptoCard

/-- THE SECOND FORM's CARD OF 'marginalialaw03.TokenLines'. -/
def tokenLinesUptoCard : Claim7 := { stood := { row := tokenLinesUptoRow, standIns := [], harness := (true, "11b168bb100c9f234a1e4ca73b025002a766741cfa5c19e419231e2a505e141c"), looks := true }, kinds := [], alts := [], laidByText := true, laidKinds := [.data, .data, .data, .sentinel, .sentinel], laidTests := true, laidLooks := .later }
def TokenLinesUptoCardSaid : Prop := Claim7.holds Tryz.pinned (.plain (OpenSpec.upto tokenLinesSpec)) tokenLinesUptoCard

/-- THE SECOND FORM's CARD OF 'marginalialaw03.TokenNeighbours'. -/
def tokenNeighboursUptoCard : Claim7 := { stood := { row := tokenNeighboursUptoRow, standIns := [], harness := (true, "11b168bb100c9f234a1e4ca73b025002a766741cfa5c19e419231e2a505e141c"), looks := true }, kinds := [], alts := [], laidByText := true, laidKinds := [.data, .data, .data, .sentinel, .sentinel], laidTests := true, laidLooks := .later }
def TokenNeighboursUptoCardSaid : Prop := Claim7.holds Tryz.pinned (.plain (OpenSpec.upto tokenNeighboursSpec)) tokenNeighboursUptoCard

/-- THE SECOND FORM's CARD OF 'marginalialaw03.TokenWhole'. -/
def tokenWholeUptoCard : Claim7 := { stood := { row := tokenWholeUptoRow, standIns := [], harness := (true, "11b168bb100c9f234a1e4ca73b025002a766741cfa5c19e419231e2a505e141c"), looks := true }, kinds := [], alts := [], laidByText := true, laidKinds := [.data, .data, .data, .sentinel, .sentinel], laidTests := true, laidLooks := .later }
def TokenWholeUptoCardSaid : Prop := Claim7.holds Tryz.pinned (.plain (OpenSpec.upto tokenWholeSpec)) tokenWholeUptoCard

/-- THE SECOND FORM's CARD OF 'marginalialaw03.TokenParts'. -/
def tokenPartsUptoCard : Claim7 := { stood := { row := tokenPartsUptoRow, standIns := [], harness := (true, "11b168bb100c9f234a1e4ca73b025002a766741cfa5c19e419231e2a505e141c"), looks := true }, kinds := [], alts := [], laidByText := true, laidKinds := [.data, .data, .data, .sentinel, .sentinel], laidTests := true, laidLooks := .later }
def TokenPartsUptoCardSaid : Prop := Claim7.holds Tryz.pinned (.plain (OpenSpec.upto tokenPartsSpec)) tokenPartsUptoCard

/-- THE SECOND FORM's CARD OF 'marginalialaw03.TokenLexes'. -/
def tokenLexesUptoCard : Claim7 := { stood := { row := tokenLexesUptoRow, standIns := [], harness := (true, "11b168bb100c9f234a1e4ca73b025002a766741cfa5c19e419231e2a505e141c"), looks := true }, kinds := [], alts := [], laidByText := true, laidKinds := [.data, .data, .data, .sentinel, .sentinel], laidTests := true, laidLooks := .later }
def TokenLexesUptoCardSaid : Prop := Claim7.holds Tryz.pinned (.plain (OpenSpec.upto tokenLexesSpec)) tokenLexesUptoCard

/-- THE SECOND FORM's CARD OF 'marginalialaw03.TokenKinds'. -/
def tokenKindsUptoCard : Claim7 := { stood := { row := tokenKindsUptoRow, standIns := [], harness := (true, "11b168bb100c9f234a1e4ca73b025002a766741cfa5c19e419231e2a505e141c"), looks := true }, kinds := [], alts := [], laidByText := true, laidKinds := [.data, .data, .data, .sentinel, .sentinel], laidTests := true, laidLooks := .later }
def TokenKindsUptoCardSaid : Prop := Claim7.holds Tryz.pinned (.plain (OpenSpec.upto tokenKindsSpec)) tokenKindsUptoCard

/-- THE SECOND FORM's CARD OF 'marginalialaw03.TokenTexts'. -/
def tokenTextsUptoCard : Claim7 := { stood := { row := tokenTextsUptoRow, standIns := [], harness := (true, "11b168bb100c9f234a1e4ca73b025002a766741cfa5c19e419231e2a505e141c"), looks := true }, kinds := [], alts := [], laidByText := true, laidKinds := [.data, .data, .data, .sentinel, .sentinel], laidTests := true, laidLooks := .later }
def TokenTextsUptoCardSaid : Prop := Claim7.holds Tryz.pinned (.plain (OpenSpec.upto tokenTextsSpec)) tokenTextsUptoCard
end Rows
end Go.Proofs.YtepgjaecfoaenaaGreatDoor
