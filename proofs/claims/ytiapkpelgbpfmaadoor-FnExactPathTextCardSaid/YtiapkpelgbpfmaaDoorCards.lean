/-
  DERIVED. GIVEN WITH THE SEED: THE CARDS: each row of YtiapkpelgbpfmaaDoorRows.lean that lists a variable, with what it lists TIED to the program's text (the seventh form; the later family's looks); each row that meets fmt, with fmt's text TOLD by the authors' own Lean function (tested against real Go, not proved from fmt's source: count such statements apart). THE CARD IS WHAT COUNTS. Prove the row's statement (the work); the ties are given (YtiapkpelgbpfmaaDoorTie.lean); close each card by the builder's one call (the guide's Derived/Test/ToyasCard.lean, 'card_holds'). Laid BY PROGRAM, IN A SANDBOX (cutbox-door.mjs). By AI agents, Wed Nov 11 2026. No macro, syntax, notation, axiom, sorry.
-/
import Derived.Test.YtiapkpelgbpfmaaDoorRows
import GoSem.ClaimSeven
namespace Go.Proofs.YtiapkpelgbpfmaaDoor
namespace Rows

/-- THE TIED CARD OF 'laws.FnExactQuote'. -/
def fnExactQuoteCard : Claim7 := { stood := { row := fnExactQuoteRow, standIns := [], harness := (true, "afc2d7f2114eb683fe3c0972f97773083ede7e4cae55ce8414e3d103a8e20397"), looks := false }, kinds := [], alts := [], laidByText := true, laidKinds := [.data, .pinned], laidTests := true, laidLooks := .later }
def FnExactQuoteCardSaid : Prop := Claim7.holds Tryd.pinned (.plain (OpenSpec.ofChange fnExactQuoteSpec)) fnExactQuoteCard

/-- THE TIED CARD OF 'laws.FnExactBare'. -/
def fnExactBareCard : Claim7 := { stood := { row := fnExactBareRow, standIns := [], harness := (true, "afc2d7f2114eb683fe3c0972f97773083ede7e4cae55ce8414e3d103a8e20397"), looks := false }, kinds := [], alts := [], laidByText := true, laidKinds := [.data, .pinned], laidTests := true, laidLooks := .later }
def FnExactBareCardSaid : Prop := Claim7.holds Tryd.pinned (.plain (OpenSpec.ofChange fnExactBareSpec)) fnExactBareCard

/-- THE TIED CARD OF 'laws.FnExactReadFour'. -/
def fnExactReadFourCard : Claim7 := { stood := { row := fnExactReadFourRow, standIns := [], harness := (true, "afc2d7f2114eb683fe3c0972f97773083ede7e4cae55ce8414e3d103a8e20397"), looks := false }, kinds := [], alts := [], laidByText := true, laidKinds := [.data, .pinned, .pinned], laidTests := true, laidLooks := .later }
def FnExactReadFourCardSaid : Prop := Claim7.holds Tryd.pinned (.plain (OpenSpec.ofChange fnExactReadFourSpec)) fnExactReadFourCard

/-- THE TIED CARD OF 'laws.FnExactPathText'. -/
def fnExactPathTextCard : Claim7 := { stood := { row := fnExactPathTextRow, standIns := [], harness := (true, "afc2d7f2114eb683fe3c0972f97773083ede7e4cae55ce8414e3d103a8e20397"), looks := false }, kinds := [], alts := [], laidByText := true, laidKinds := [.data, .data, .data], laidTests := true, laidLooks := .later }
def FnExactPathTextCardSaid : Prop := Claim7.holds Tryd.pinned (.plain (OpenSpec.ofChange fnExactPathTextSpec)) fnExactPathTextCard

/-- THE TIED CARD OF 'laws.FnExactTokenText'. -/
def fnExactTokenTextCard : Claim7 := { stood := { row := fnExactTokenTextRow, standIns := [], harness := (true, "afc2d7f2114eb683fe3c0972f97773083ede7e4cae55ce8414e3d103a8e20397"), looks := false }, kinds := [], alts := [], laidByText := true, laidKinds := [.data, .data, .data, .data, .pinned], laidTests := true, laidLooks := .later }
def FnExactTokenTextCardSaid : Prop := Claim7.holds Tryd.pinned (.plain (OpenSpec.ofChange fnExactTokenTextSpec)) fnExactTokenTextCard

/-- THE TIED CARD OF 'laws.FnExactReadQuoted'. -/
def fnExactReadQuotedCard : Claim7 := { stood := { row := fnExactReadQuotedRow, standIns := [], harness := (true, "afc2d7f2114eb683fe3c0972f97773083ede7e4cae55ce8414e3d103a8e20397"), looks := false }, kinds := [], alts := [], laidByText := true, laidKinds := [.data, .pinned, .pinned], laidTests := true, laidLooks := .later }
def FnExactReadQuotedCardSaid : Prop := Claim7.holds Tryd.pinned (.plain (OpenSpec.ofChange fnExactReadQuotedSpec)) fnExactReadQuotedCard

/-- THE TIED CARD OF 'laws.FnExactJoinTokens'. -/
def fnExactJoinTokensCard : Claim7 := { stood := { row := fnExactJoinTokensRow, standIns := [], harness := (true, "afc2d7f2114eb683fe3c0972f97773083ede7e4cae55ce8414e3d103a8e20397"), looks := false }, kinds := [], alts := [], laidByText := true, laidKinds := [.data, .data, .data, .data, .pinned], laidTests := true, laidLooks := .later }
def FnExactJoinTokensCardSaid : Prop := Claim7.holds Tryd.pinned (.plain (OpenSpec.ofChange fnExactJoinTokensSpec)) fnExactJoinTokensCard

/-- THE TIED CARD OF 'laws.FnExactParseTokens'. -/
def fnExactParseTokensCard : Claim7 := { stood := { row := fnExactParseTokensRow, standIns := [], harness := (true, "afc2d7f2114eb683fe3c0972f97773083ede7e4cae55ce8414e3d103a8e20397"), looks := false }, kinds := [], alts := [], laidByText := true, laidKinds := [.data, .data, .data], laidTests := true, laidLooks := .later }
def FnExactParseTokensCardSaid : Prop := Claim7.holds Tryd.pinned (.plain (OpenSpec.ofChange fnExactParseTokensSpec)) fnExactParseTokensCard

/-- THE TIED CARD OF 'laws.FnExactFitsText'. -/
def fnExactFitsTextCard : Claim7 := { stood := { row := fnExactFitsTextRow, standIns := [], harness := (true, "afc2d7f2114eb683fe3c0972f97773083ede7e4cae55ce8414e3d103a8e20397"), looks := false }, kinds := [], alts := [], laidByText := true, laidKinds := [.data, .data, .data, .data, .pinned], laidTests := true, laidLooks := .later }
def FnExactFitsTextCardSaid : Prop := Claim7.holds Tryd.pinned (.plain (OpenSpec.ofChange fnExactFitsTextSpec)) fnExactFitsTextCard

/-- THE TIED CARD OF 'laws.FnExactWriteText'. -/
def fnExactWriteTextCard : Claim7 := { stood := { row := fnExactWriteTextRow, standIns := [], harness := (true, "afc2d7f2114eb683fe3c0972f97773083ede7e4cae55ce8414e3d103a8e20397"), looks := false }, kinds := [], alts := [], laidByText := true, laidKinds := [.data, .data, .data, .data, .pinned], laidTests := true, laidLooks := .later }
def FnExactWriteTextCardSaid : Prop := Claim7.holds Tryd.pinned (.plain (OpenSpec.ofChange fnExactWriteTextSpec)) fnExactWriteTextCard

/-- THE SECOND FORM's CARD OF 'laws.FnExactQuote'. -/
def fnExactQuoteUptoCard : Claim7 := { stood := { row := fnExactQuoteUptoRow, standIns := [], harness := (true, "afc2d7f2114eb683fe3c0972f97773083ede7e4cae55ce8414e3d103a8e20397"), looks := false }, kinds := [], alts := [], laidByText := true, laidKinds := [.data, .pinned], laidTests := true, laidLooks := .later }
def FnExactQuoteUptoCardSaid : Prop := Claim7.holds Tryd.pinned (.plain (OpenSpec.upto fnExactQuoteSpec)) fnExactQuoteUptoCard

/-- THE SECOND FORM's CARD OF 'laws.FnExactBare'. -/
def fnExactBareUptoCard : Claim7 := { stood := { row := fnExactBareUptoRow, standIns := [], harness := (true, "afc2d7f2114eb683fe3c0972f97773083ede7e4cae55ce8414e3d103a8e20397"), looks := false }, kinds := [], alts := [], laidByText := true, laidKinds := [.data, .pinned], laidTests := true, laidLooks := .later }
def FnExactBareUptoCardSaid : Prop := Claim7.holds Tryd.pinned (.plain (OpenSpec.upto fnExactBareSpec)) fnExactBareUptoCard

/-- THE SECOND FORM's CARD OF 'laws.FnExactReadFour'. -/
def fnExactReadFourUptoCard : Claim7 := { stood := { row := fnExactReadFourUptoRow, standIns := [], harness := (true, "afc2d7f2114eb683fe3c0972f97773083ede7e4cae55ce8414e3d103a8e20397"), looks := false }, kinds := [], alts := [], laidByText := true, laidKinds := [.data, .pinned, .pinned], laidTests := true, laidLooks := .later }
def FnExactReadFourUptoCardSaid : Prop := Claim7.holds Tryd.pinned (.plain (OpenSpec.upto fnExactReadFourSpec)) fnExactReadFourUptoCard

/-- THE SECOND FORM's CARD OF 'laws.FnExactPathText'. -/
def fnExactPathTextUptoCard : Claim7 := { stood := { row := fnExactPathTextUptoRow, standIns := [], harness := (true, "afc2d7f2114eb683fe3c0972f97773083ede7e4cae55ce8414e3d103a8e20397"), looks := false }, kinds := [], alts := [], laidByText := true, laidKinds := [.data, .data, .data], laidTests := true, laidLooks := .later }
def FnExactPathTextUptoCardSaid : Prop := Claim7.holds Tryd.pinned (.plain (OpenSpec.upto fnExactPathTextSpec)) fnExactPathTextUptoCard

/-- THE SECOND FORM's CARD OF 'laws.FnExactTokenText'. -/
def fnExactTokenTextUptoCard : Claim7 := { stood := { row := fnExactTokenTextUptoRow, standIns := [], harness := (true, "afc2d7f2114eb683fe3c0972f97773083ede7e4cae55ce8414e3d103a8e20397"), looks := false }, kinds := [], alts := [], laidByText := true, laidKinds := [.data, .data, .data, .data, .pinned], laidTests := true, laidLooks := .later }
def FnExactTokenTextUptoCardSaid : Prop := Claim7.holds Tryd.pinned (.plain (OpenSpec.upto fnExactTokenTextSpec)) fnExactTokenTextUptoCard

/-- THE SECOND FORM's CARD OF 'laws.FnExactReadQuoted'. -/
def fnExactReadQuotedUptoCard : Claim7 := { stood := { row := fnExactReadQuotedUptoRow, standIns := [], harness := (true, "afc2d7f2114eb683fe3c0972f97773083ede7e4cae55ce8414e3d103a8e20397"), looks := false }, kinds := [], alts := [], laidByText := true, laidKinds := [.data, .pinned, .pinned], laidTests := true, laidLooks := .later }
def FnExactReadQuotedUptoCardSaid : Prop := Claim7.holds Tryd.pinned (.plain (OpenSpec.upto fnExactReadQuotedSpec)) fnExactReadQuotedUptoCard

/-- THE SECOND FORM's CARD OF 'laws.FnExactJoinTokens'. -/
def fnExactJoinTokensUptoCard : Claim7 := { stood := { row := fnExactJoinTokensUptoRow, standIns := [], harness := (true, "afc2d7f2114eb683fe3c0972f97773083ede7e4cae55ce8414e3d103a8e20397"), looks := false }, kinds := [], alts := [], laidByText := true, laidKinds := [.data, .data, .data, .data, .pinned], laidTests := true, laidLooks := .later }
def FnExactJoinTokensUptoCardSaid : Prop := Claim7.holds Tryd.pinned (.plain (OpenSpec.upto fnExactJoinTokensSpec)) fnExactJoinTokensUptoCard

/-- THE SECOND FORM's CARD OF 'laws.FnExactParseTokens'. -/
def fnExactParseTokensUptoCard : Claim7 := { stood := { row := fnExactParseTokensUptoRow, standIns := [], harness := (true, "afc2d7f2114eb683fe3c0972f97773083ede7e4cae55ce8414e3d103a8e20397"), looks := false }, kinds := [], alts := [], laidByText := true, laidKinds := [.data, .data, .data], laidTests := true, laidLooks := .later }
def FnExactParseTokensUptoCardSaid : Prop := Claim7.holds Tryd.pinned (.plain (OpenSpec.upto fnExactParseTokensSpec)) fnExactParseTokensUptoCard

/-- THE SECOND FORM's CARD OF 'laws.FnExactFitsText'. -/
def fnExactFitsTextUptoCard : Claim7 := { stood := { row := fnExactFitsTextUptoRow, standIns := [], harness := (true, "afc2d7f2114eb683fe3c0972f97773083ede7e4cae55ce8414e3d103a8e20397"), looks := false }, kinds := [], alts := [], laidByText := true, laidKinds := [.data, .data, .data, .data, .pinned], laidTests := true, laidLooks := .later }
def FnExactFitsTextUptoCardSaid : Prop := Claim7.holds Tryd.pinned (.plain (OpenSpec.upto fnExactFitsTextSpec)) fnExactFitsTextUptoCard

/-- THE SECOND FORM's CARD OF 'laws.FnExactWriteText'. -/
def fnExactWriteTextUptoCard : Claim7 := { stood := { row := fnExactWriteTextUptoRow, standIns := [], harness := (true, "afc2d7f2114eb683fe3c0972f97773083ede7e4cae55ce8414e3d103a8e20397"), looks := false }, kinds := [], alts := [], laidByText := true, laidKinds := [.data, .data, .data, .data, .pinned], laidTests := true, laidLooks := .later }
def FnExactWriteTextUptoCardSaid : Prop := Claim7.holds Tryd.pinned (.plain (OpenSpec.upto fnExactWriteTextSpec)) fnExactWriteTextUptoCard
end Rows
end Go.Proofs.YtiapkpelgbpfmaaDoor
