/-
  DERIVED. GIVEN WITH THE SEED: THE CARDS: each row of YtihhedmehlemmaaDoorRows.lean that lists a variable, with what it lists TIED to the program's text (the seventh form; the later family's looks); each row that meets fmt, with fmt's text TOLD by the authors' own Lean function (tested against real Go, not proved from fmt's source: count such statements apart). THE CARD IS WHAT COUNTS. Prove the row's statement (the work); the ties are given (YtihhedmehlemmaaDoorTie.lean); close each card by the builder's one call (the guide's Derived/Test/ToyasCard.lean, 'card_holds'). Laid BY PROGRAM, IN A SANDBOX (cutbox-door.mjs). By AI agents, Wed Nov 11 2026. No macro, syntax, notation, axiom, sorry.
-/
import Derived.Test.YtihhedmehlemmaaDoorRows
import GoSem.ClaimSeven
namespace Go.Proofs.YtihhedmehlemmaaDoor
namespace Rows

/-- THE TIED CARD OF 'laws.FnPaths'. -/
def fnPathsCard : Claim7 := { stood := { row := fnPathsRow, standIns := [], harness := (true, "ea94864ff79586b6ca5232cf99cf5ffc7ca1cd7e61ad116390f660372c59502f"), looks := false }, kinds := [], alts := [], laidByText := true, laidKinds := [.data, .data, .data], laidTests := true, laidLooks := .later }
def FnPathsCardSaid : Prop := Claim7.holds Tryd.pinned (.plain (OpenSpec.ofChange fnPathsSpec)) fnPathsCard

/-- THE TIED CARD OF 'laws.FnQuotes'. -/
def fnQuotesCard : Claim7 := { stood := { row := fnQuotesRow, standIns := [], harness := (true, "ea94864ff79586b6ca5232cf99cf5ffc7ca1cd7e61ad116390f660372c59502f"), looks := false }, kinds := [], alts := [], laidByText := true, laidKinds := [.data, .pinned, .pinned], laidTests := true, laidLooks := .later }
def FnQuotesCardSaid : Prop := Claim7.holds Tryd.pinned (.plain (OpenSpec.ofChange fnQuotesSpec)) fnQuotesCard

/-- THE SECOND FORM's CARD OF 'laws.FnPaths'. -/
def fnPathsUptoCard : Claim7 := { stood := { row := fnPathsUptoRow, standIns := [], harness := (true, "ea94864ff79586b6ca5232cf99cf5ffc7ca1cd7e61ad116390f660372c59502f"), looks := false }, kinds := [], alts := [], laidByText := true, laidKinds := [.data, .data, .data], laidTests := true, laidLooks := .later }
def FnPathsUptoCardSaid : Prop := Claim7.holds Tryd.pinned (.plain (OpenSpec.upto fnPathsSpec)) fnPathsUptoCard

/-- THE SECOND FORM's CARD OF 'laws.FnQuotes'. -/
def fnQuotesUptoCard : Claim7 := { stood := { row := fnQuotesUptoRow, standIns := [], harness := (true, "ea94864ff79586b6ca5232cf99cf5ffc7ca1cd7e61ad116390f660372c59502f"), looks := false }, kinds := [], alts := [], laidByText := true, laidKinds := [.data, .pinned, .pinned], laidTests := true, laidLooks := .later }
def FnQuotesUptoCardSaid : Prop := Claim7.holds Tryd.pinned (.plain (OpenSpec.upto fnQuotesSpec)) fnQuotesUptoCard
end Rows
end Go.Proofs.YtihhedmehlemmaaDoor
