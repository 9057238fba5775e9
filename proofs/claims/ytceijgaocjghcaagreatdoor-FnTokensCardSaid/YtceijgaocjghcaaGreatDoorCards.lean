/-
  DERIVED. GIVEN WITH THE SEED: THE CARDS: each row of YtceijgaocjghcaaGreatDoorRows.lean that lists a variable, with what it lists TIED to the program's text (the seventh form; the later family's looks); each row that meets fmt, with fmt's text TOLD by the authors' own Lean function (tested against real Go, not proved from fmt's source: count such statements apart). THE CARD IS WHAT COUNTS. Prove the row's statement (the work); the ties are given (YtceijgaocjghcaaGreatDoorTie.lean); close each card by the builder's one call (the guide's Derived/Test/ToyasCard.lean, 'card_holds'). Laid BY PROGRAM, IN A SANDBOX (cutbox-door.mjs). By AI agents, Wed Nov 11 2026. No macro, syntax, notation, axiom, sorry.
-/
import Derived.Test.YtceijgaocjghcaaGreatDoorRows
import GoSem.ClaimSeven
namespace Go.Proofs.YtceijgaocjghcaaGreatDoor
namespace Rows

/-- THE TIED CARD OF 'laws.FnTokensBent'. -/
def fnTokensBentCard : Claim7 := { stood := { row := fnTokensBentRow, standIns := [], harness := (true, "c2d6ca3db0a75fe41775ad72151ed40385ba526d479aee1f156ac5c5536d38c7"), looks := true }, kinds := [], alts := [], laidByText := true, laidKinds := [.data, .data, .data, .data, .sentinel, .sentinel, .pinned, .pinned], laidTests := true, laidLooks := .later }
def FnTokensBentCardSaid : Prop := Claim7.holds Tryz.pinned (.plain (OpenSpec.ofChange fnTokensBentSpec)) fnTokensBentCard

/-- THE TIED CARD OF 'laws.FnTightOrder'. -/
def fnTightOrderCard : Claim7 := { stood := { row := fnTightOrderRow, standIns := [], harness := (true, "c2d6ca3db0a75fe41775ad72151ed40385ba526d479aee1f156ac5c5536d38c7"), looks := true }, kinds := [], alts := [], laidByText := true, laidKinds := [.data, .data, .data], laidTests := true, laidLooks := .later }
def FnTightOrderCardSaid : Prop := Claim7.holds Tryz.pinned (.plain (OpenSpec.ofChange fnTightOrderSpec)) fnTightOrderCard

/-- THE TIED CARD OF 'laws.FnTokens'. -/
def fnTokensCard : Claim7 := { stood := { row := fnTokensRow, standIns := [], harness := (true, "c2d6ca3db0a75fe41775ad72151ed40385ba526d479aee1f156ac5c5536d38c7"), looks := true }, kinds := [], alts := [], laidByText := true, laidKinds := [.data, .data, .data, .data, .sentinel, .sentinel, .pinned, .pinned], laidTests := true, laidLooks := .later }
def FnTokensCardSaid : Prop := Claim7.holds Tryz.pinned (.plain (OpenSpec.ofChange fnTokensSpec)) fnTokensCard

/-- THE SECOND FORM's CARD OF 'laws.FnTokensBent'. -/
def fnTokensBentUptoCard : Claim7 := { stood := { row := fnTokensBentUptoRow, standIns := [], harness := (true, "c2d6ca3db0a75fe41775ad72151ed40385ba526d479aee1f156ac5c5536d38c7"), looks := true }, kinds := [], alts := [], laidByText := true, laidKinds := [.data, .data, .data, .data, .sentinel, .sentinel, .pinned, .pinned], laidTests := true, laidLooks := .later }
def FnTokensBentUptoCardSaid : Prop := Claim7.holds Tryz.pinned (.plain (OpenSpec.upto fnTokensBentSpec)) fnTokensBentUptoCard

/-- THE SECOND FORM's CARD OF 'laws.FnTightOrder'. -/
def fnTightOrderUptoCard : Claim7 := { stood := { row := fnTightOrderUptoRow, standIns := [], harness := (true, "c2d6ca3db0a75fe41775ad72151ed40385ba526d479aee1f156ac5c5536d38c7"), looks := true }, kinds := [], alts := [], laidByText := true, laidKinds := [.data, .data, .data], laidTests := true, laidLooks := .later }
def FnTightOrderUptoCardSaid : Prop := Claim7.holds Tryz.pinned (.plain (OpenSpec.upto fnTightOrderSpec)) fnTightOrderUptoCard

/-- THE SECOND FORM's CARD OF 'laws.FnTokens'. -/
def fnTokensUptoCard : Claim7 := { stood := { row := fnTokensUptoRow, standIns := [], harness := (true, "c2d6ca3db0a75fe41775ad72151ed40385ba526d479aee1f156ac5c5536d38c7"), looks := true }, kinds := [], alts := [], laidByText := true, laidKinds := [.data, .data, .data, .data, .sentinel, .sentinel, .pinned, .pinned], laidTests := true, laidLooks := .later }
def FnTokensUptoCardSaid : Prop := Claim7.holds Tryz.pinned (.plain (OpenSpec.upto fnTokensSpec)) fnTokensUptoCard
end Rows
end Go.Proofs.YtceijgaocjghcaaGreatDoor
