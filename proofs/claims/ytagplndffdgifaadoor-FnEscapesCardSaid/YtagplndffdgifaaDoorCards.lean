/-
  DERIVED. GIVEN WITH THE SEED: THE CARDS: each row of YtagplndffdgifaaDoorRows.lean that lists a variable, with what it lists TIED to the program's text (the seventh form; the later family's looks); each row that meets fmt, with fmt's text TOLD by the authors' own Lean function (tested against real Go, not proved from fmt's source: count such statements apart). THE CARD IS WHAT COUNTS. Prove the row's statement (the work); the ties are given (YtagplndffdgifaaDoorTie.lean); close each card by the builder's one call (the guide's Derived/Test/ToyasCard.lean, 'card_holds'). Laid BY PROGRAM, IN A SANDBOX (cutbox-door.mjs). By AI agents, Wed Nov 11 2026. No macro, syntax, notation, axiom, sorry.
-/
import Derived.Test.YtagplndffdgifaaDoorRows
import GoSem.ClaimSeven
namespace Go.Proofs.YtagplndffdgifaaDoor
namespace Rows

/-- THE TIED CARD OF 'laws.FnEscapes'. -/
def fnEscapesCard : Claim7 := { stood := { row := fnEscapesRow, standIns := [], harness := (true, "174e78dcf1fcc9307715bc925d7040d8ac45a9cf1f9f32bc191be1dbe4fee166"), looks := false }, kinds := [], alts := [], laidByText := true, laidKinds := [.data, .pinned, .pinned], laidTests := true, laidLooks := .later }
def FnEscapesCardSaid : Prop := Claim7.holds Tryd.pinned (.plain (OpenSpec.ofChange fnEscapesSpec)) fnEscapesCard

/-- THE TIED CARD OF 'laws.FnPaths'. -/
def fnPathsCard : Claim7 := { stood := { row := fnPathsRow, standIns := [], harness := (true, "174e78dcf1fcc9307715bc925d7040d8ac45a9cf1f9f32bc191be1dbe4fee166"), looks := false }, kinds := [], alts := [], laidByText := true, laidKinds := [.data, .data, .data], laidTests := true, laidLooks := .later }
def FnPathsCardSaid : Prop := Claim7.holds Tryd.pinned (.plain (OpenSpec.ofChange fnPathsSpec)) fnPathsCard

/-- THE TIED CARD OF 'laws.FnQuotes'. -/
def fnQuotesCard : Claim7 := { stood := { row := fnQuotesRow, standIns := [], harness := (true, "174e78dcf1fcc9307715bc925d7040d8ac45a9cf1f9f32bc191be1dbe4fee166"), looks := false }, kinds := [], alts := [], laidByText := true, laidKinds := [.data, .pinned, .pinned], laidTests := true, laidLooks := .later }
def FnQuotesCardSaid : Prop := Claim7.holds Tryd.pinned (.plain (OpenSpec.ofChange fnQuotesSpec)) fnQuotesCard

/-- THE SECOND FORM's CARD OF 'laws.FnEscapes'. -/
def fnEscapesUptoCard : Claim7 := { stood := { row := fnEscapesUptoRow, standIns := [], harness := (true, "174e78dcf1fcc9307715bc925d7040d8ac45a9cf1f9f32bc191be1dbe4fee166"), looks := false }, kinds := [], alts := [], laidByText := true, laidKinds := [.data, .pinned, .pinned], laidTests := true, laidLooks := .later }
def FnEscapesUptoCardSaid : Prop := Claim7.holds Tryd.pinned (.plain (OpenSpec.upto fnEscapesSpec)) fnEscapesUptoCard

/-- THE SECOND FORM's CARD OF 'laws.FnPaths'. -/
def fnPathsUptoCard : Claim7 := { stood := { row := fnPathsUptoRow, standIns := [], harness := (true, "174e78dcf1fcc9307715bc925d7040d8ac45a9cf1f9f32bc191be1dbe4fee166"), looks := false }, kinds := [], alts := [], laidByText := true, laidKinds := [.data, .data, .data], laidTests := true, laidLooks := .later }
def FnPathsUptoCardSaid : Prop := Claim7.holds Tryd.pinned (.plain (OpenSpec.upto fnPathsSpec)) fnPathsUptoCard

/-- THE SECOND FORM's CARD OF 'laws.FnQuotes'. -/
def fnQuotesUptoCard : Claim7 := { stood := { row := fnQuotesUptoRow, standIns := [], harness := (true, "174e78dcf1fcc9307715bc925d7040d8ac45a9cf1f9f32bc191be1dbe4fee166"), looks := false }, kinds := [], alts := [], laidByText := true, laidKinds := [.data, .pinned, .pinned], laidTests := true, laidLooks := .later }
def FnQuotesUptoCardSaid : Prop := Claim7.holds Tryd.pinned (.plain (OpenSpec.upto fnQuotesSpec)) fnQuotesUptoCard
end Rows
end Go.Proofs.YtagplndffdgifaaDoor
