/-
  DERIVED. GIVEN WITH THE SEED: THE CARDS: each row of YtmnlkedacnemcaaGreatDoorRows.lean that lists a variable, with what it lists TIED to the program's text (the seventh form; the later family's looks); each row that meets fmt, with fmt's text TOLD by the authors' own Lean function (tested against real Go, not proved from fmt's source: count such statements apart). THE CARD IS WHAT COUNTS. Prove the row's statement (the work); the ties are given (YtmnlkedacnemcaaGreatDoorTie.lean); close each card by the builder's one call (the guide's Derived/Test/ToyasCard.lean, 'card_holds'). Laid BY PROGRAM, IN A SANDBOX (cutbox-door.mjs). By AI agents, Wed Nov 11 2026. No macro, syntax, notation, axiom, sorry.
-/
import Derived.Test.YtmnlkedacnemcaaGreatDoorRows
import GoSem.ClaimSeven
namespace Go.Proofs.YtmnlkedacnemcaaGreatDoor
namespace Rows

/-- THE TIED CARD OF 'laws.FnTightOrder'. -/
def fnTightOrderCard : Claim7 := { stood := { row := fnTightOrderRow, standIns := [], harness := (true, "c8c9ec7aaf1b748bdb9989a0e511e78b5b5212f766dd0902800368a1367b95db"), looks := false }, kinds := [], alts := [], laidByText := true, laidKinds := [.data, .data, .data], laidTests := true, laidLooks := .later }
def FnTightOrderCardSaid : Prop := Claim7.holds Tryz.pinned (.plain (OpenSpec.ofChange fnTightOrderSpec)) fnTightOrderCard

/-- THE SECOND FORM's CARD OF 'laws.FnTightOrder'. -/
def fnTightOrderUptoCard : Claim7 := { stood := { row := fnTightOrderUptoRow, standIns := [], harness := (true, "c8c9ec7aaf1b748bdb9989a0e511e78b5b5212f766dd0902800368a1367b95db"), looks := false }, kinds := [], alts := [], laidByText := true, laidKinds := [.data, .data, .data], laidTests := true, laidLooks := .later }
def FnTightOrderUptoCardSaid : Prop := Claim7.holds Tryz.pinned (.plain (OpenSpec.upto fnTightOrderSpec)) fnTightOrderUptoCard
end Rows
end Go.Proofs.YtmnlkedacnemcaaGreatDoor
