/-
  DERIVED. GIVEN WITH THE SEED: THE CARDS: each row of YticejlknbfhndaaDoorRows.lean that lists a variable, with what it lists TIED to the program's text (the seventh form; the later family's looks); each row that meets fmt, with fmt's text TOLD by the authors' own Lean function (tested against real Go, not proved from fmt's source: count such statements apart). THE CARD IS WHAT COUNTS. Prove the row's statement (the work); the ties are given (YticejlknbfhndaaDoorTie.lean); close each card by the builder's one call (the guide's Derived/Test/ToyasCard.lean, 'card_holds'). Laid BY PROGRAM, IN A SANDBOX (cutbox-door.mjs). By AI agents, Wed Nov 11 2026. No macro, syntax, notation, axiom, sorry.
-/
import Derived.Test.YticejlknbfhndaaDoorRows
import GoSem.ClaimSeven
namespace Go.Proofs.YticejlknbfhndaaDoor
namespace Rows

/-- THE TIED CARD OF 'laws.FnExactFitsText'. -/
def fnExactFitsTextCard : Claim7 := { stood := { row := fnExactFitsTextRow, standIns := [], harness := (true, "097b689824b8e2568a251c801b898dd64e884ae37b25addac792d55d9ef7afa1"), looks := false }, kinds := [], alts := [], laidByText := true, laidKinds := [.data, .data, .data, .data, .pinned], laidTests := true, laidLooks := .later }
def FnExactFitsTextCardSaid : Prop := Claim7.holds Tryd.pinned (.plain (OpenSpec.ofChange fnExactFitsTextSpec)) fnExactFitsTextCard

/-- THE TIED CARD OF 'laws.FnExactParseTokens'. -/
def fnExactParseTokensCard : Claim7 := { stood := { row := fnExactParseTokensRow, standIns := [], harness := (true, "097b689824b8e2568a251c801b898dd64e884ae37b25addac792d55d9ef7afa1"), looks := false }, kinds := [], alts := [], laidByText := true, laidKinds := [.data, .data, .data], laidTests := true, laidLooks := .later }
def FnExactParseTokensCardSaid : Prop := Claim7.holds Tryd.pinned (.plain (OpenSpec.ofChange fnExactParseTokensSpec)) fnExactParseTokensCard

/-- THE TIED CARD OF 'laws.FnExactFitsPacked'. -/
def fnExactFitsPackedCard : Claim7 := { stood := { row := fnExactFitsPackedRow, standIns := [], harness := (true, "097b689824b8e2568a251c801b898dd64e884ae37b25addac792d55d9ef7afa1"), looks := false }, kinds := [], alts := [], laidByText := true, laidKinds := [.data, .data, .data, .data, .pinned], laidTests := true, laidLooks := .later }
def FnExactFitsPackedCardSaid : Prop := Claim7.holds Tryd.pinned (.plain (OpenSpec.ofChange fnExactFitsPackedSpec)) fnExactFitsPackedCard

/-- THE TIED CARD OF 'laws.FnExactFitsTight'. -/
def fnExactFitsTightCard : Claim7 := { stood := { row := fnExactFitsTightRow, standIns := [], harness := (true, "097b689824b8e2568a251c801b898dd64e884ae37b25addac792d55d9ef7afa1"), looks := false }, kinds := [], alts := [], laidByText := true, laidKinds := [.data, .data, .data, .data, .pinned], laidTests := true, laidLooks := .later }
def FnExactFitsTightCardSaid : Prop := Claim7.holds Tryd.pinned (.plain (OpenSpec.ofChange fnExactFitsTightSpec)) fnExactFitsTightCard

/-- THE TIED CARD OF 'laws.FnExactSizeTight'. -/
def fnExactSizeTightCard : Claim7 := { stood := { row := fnExactSizeTightRow, standIns := [], harness := (true, "097b689824b8e2568a251c801b898dd64e884ae37b25addac792d55d9ef7afa1"), looks := false }, kinds := [], alts := [], laidByText := true, laidKinds := [.data, .data, .data, .data, .pinned], laidTests := true, laidLooks := .later }
def FnExactSizeTightCardSaid : Prop := Claim7.holds Tryd.pinned (.plain (OpenSpec.ofChange fnExactSizeTightSpec)) fnExactSizeTightCard

/-- THE TIED CARD OF 'laws.FnExactWriteTight'. -/
def fnExactWriteTightCard : Claim7 := { stood := { row := fnExactWriteTightRow, standIns := [], harness := (true, "097b689824b8e2568a251c801b898dd64e884ae37b25addac792d55d9ef7afa1"), looks := false }, kinds := [], alts := [], laidByText := true, laidKinds := [.data, .data, .data, .data, .pinned], laidTests := true, laidLooks := .later }
def FnExactWriteTightCardSaid : Prop := Claim7.holds Tryd.pinned (.plain (OpenSpec.ofChange fnExactWriteTightSpec)) fnExactWriteTightCard

/-- THE TIED CARD OF 'laws.FnExactWriteText'. -/
def fnExactWriteTextCard : Claim7 := { stood := { row := fnExactWriteTextRow, standIns := [], harness := (true, "097b689824b8e2568a251c801b898dd64e884ae37b25addac792d55d9ef7afa1"), looks := false }, kinds := [], alts := [], laidByText := true, laidKinds := [.data, .data, .data, .data, .pinned], laidTests := true, laidLooks := .later }
def FnExactWriteTextCardSaid : Prop := Claim7.holds Tryd.pinned (.plain (OpenSpec.ofChange fnExactWriteTextSpec)) fnExactWriteTextCard

/-- THE TIED CARD OF 'laws.FnExactWritePacked'. -/
def fnExactWritePackedCard : Claim7 := { stood := { row := fnExactWritePackedRow, standIns := [], harness := (true, "097b689824b8e2568a251c801b898dd64e884ae37b25addac792d55d9ef7afa1"), looks := false }, kinds := [], alts := [], laidByText := true, laidKinds := [.data, .data, .data, .data, .pinned], laidTests := true, laidLooks := .later }
def FnExactWritePackedCardSaid : Prop := Claim7.holds Tryd.pinned (.plain (OpenSpec.ofChange fnExactWritePackedSpec)) fnExactWritePackedCard

/-- THE SECOND FORM's CARD OF 'laws.FnExactFitsText'. -/
def fnExactFitsTextUptoCard : Claim7 := { stood := { row := fnExactFitsTextUptoRow, standIns := [], harness := (true, "097b689824b8e2568a251c801b898dd64e884ae37b25addac792d55d9ef7afa1"), looks := false }, kinds := [], alts := [], laidByText := true, laidKinds := [.data, .data, .data, .data, .pinned], laidTests := true, laidLooks := .later }
def FnExactFitsTextUptoCardSaid : Prop := Claim7.holds Tryd.pinned (.plain (OpenSpec.upto fnExactFitsTextSpec)) fnExactFitsTextUptoCard

/-- THE SECOND FORM's CARD OF 'laws.FnExactParseTokens'. -/
def fnExactParseTokensUptoCard : Claim7 := { stood := { row := fnExactParseTokensUptoRow, standIns := [], harness := (true, "097b689824b8e2568a251c801b898dd64e884ae37b25addac792d55d9ef7afa1"), looks := false }, kinds := [], alts := [], laidByText := true, laidKinds := [.data, .data, .data], laidTests := true, laidLooks := .later }
def FnExactParseTokensUptoCardSaid : Prop := Claim7.holds Tryd.pinned (.plain (OpenSpec.upto fnExactParseTokensSpec)) fnExactParseTokensUptoCard

/-- THE SECOND FORM's CARD OF 'laws.FnExactFitsPacked'. -/
def fnExactFitsPackedUptoCard : Claim7 := { stood := { row := fnExactFitsPackedUptoRow, standIns := [], harness := (true, "097b689824b8e2568a251c801b898dd64e884ae37b25addac792d55d9ef7afa1"), looks := false }, kinds := [], alts := [], laidByText := true, laidKinds := [.data, .data, .data, .data, .pinned], laidTests := true, laidLooks := .later }
def FnExactFitsPackedUptoCardSaid : Prop := Claim7.holds Tryd.pinned (.plain (OpenSpec.upto fnExactFitsPackedSpec)) fnExactFitsPackedUptoCard

/-- THE SECOND FORM's CARD OF 'laws.FnExactFitsTight'. -/
def fnExactFitsTightUptoCard : Claim7 := { stood := { row := fnExactFitsTightUptoRow, standIns := [], harness := (true, "097b689824b8e2568a251c801b898dd64e884ae37b25addac792d55d9ef7afa1"), looks := false }, kinds := [], alts := [], laidByText := true, laidKinds := [.data, .data, .data, .data, .pinned], laidTests := true, laidLooks := .later }
def FnExactFitsTightUptoCardSaid : Prop := Claim7.holds Tryd.pinned (.plain (OpenSpec.upto fnExactFitsTightSpec)) fnExactFitsTightUptoCard

/-- THE SECOND FORM's CARD OF 'laws.FnExactSizeTight'. -/
def fnExactSizeTightUptoCard : Claim7 := { stood := { row := fnExactSizeTightUptoRow, standIns := [], harness := (true, "097b689824b8e2568a251c801b898dd64e884ae37b25addac792d55d9ef7afa1"), looks := false }, kinds := [], alts := [], laidByText := true, laidKinds := [.data, .data, .data, .data, .pinned], laidTests := true, laidLooks := .later }
def FnExactSizeTightUptoCardSaid : Prop := Claim7.holds Tryd.pinned (.plain (OpenSpec.upto fnExactSizeTightSpec)) fnExactSizeTightUptoCard

/-- THE SECOND FORM's CARD OF 'laws.FnExactWriteTight'. -/
def fnExactWriteTightUptoCard : Claim7 := { stood := { row := fnExactWriteTightUptoRow, standIns := [], harness := (true, "097b689824b8e2568a251c801b898dd64e884ae37b25addac792d55d9ef7afa1"), looks := false }, kinds := [], alts := [], laidByText := true, laidKinds := [.data, .data, .data, .data, .pinned], laidTests := true, laidLooks := .later }
def FnExactWriteTightUptoCardSaid : Prop := Claim7.holds Tryd.pinned (.plain (OpenSpec.upto fnExactWriteTightSpec)) fnExactWriteTightUptoCard

/-- THE SECOND FORM's CARD OF 'laws.FnExactWriteText'. -/
def fnExactWriteTextUptoCard : Claim7 := { stood := { row := fnExactWriteTextUptoRow, standIns := [], harness := (true, "097b689824b8e2568a251c801b898dd64e884ae37b25addac792d55d9ef7afa1"), looks := false }, kinds := [], alts := [], laidByText := true, laidKinds := [.data, .data, .data, .data, .pinned], laidTests := true, laidLooks := .later }
def FnExactWriteTextUptoCardSaid : Prop := Claim7.holds Tryd.pinned (.plain (OpenSpec.upto fnExactWriteTextSpec)) fnExactWriteTextUptoCard

/-- THE SECOND FORM's CARD OF 'laws.FnExactWritePacked'. -/
def fnExactWritePackedUptoCard : Claim7 := { stood := { row := fnExactWritePackedUptoRow, standIns := [], harness := (true, "097b689824b8e2568a251c801b898dd64e884ae37b25addac792d55d9ef7afa1"), looks := false }, kinds := [], alts := [], laidByText := true, laidKinds := [.data, .data, .data, .data, .pinned], laidTests := true, laidLooks := .later }
def FnExactWritePackedUptoCardSaid : Prop := Claim7.holds Tryd.pinned (.plain (OpenSpec.upto fnExactWritePackedSpec)) fnExactWritePackedUptoCard
end Rows
end Go.Proofs.YticejlknbfhndaaDoor
