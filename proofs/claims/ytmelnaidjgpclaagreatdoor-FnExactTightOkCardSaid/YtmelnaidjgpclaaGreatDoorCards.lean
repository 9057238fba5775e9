/-
  DERIVED. GIVEN WITH THE SEED: THE CARDS: each row of YtmelnaidjgpclaaGreatDoorRows.lean that lists a variable, with what it lists TIED to the program's text (the seventh form; the later family's looks); each row that meets fmt, with fmt's text TOLD by the authors' own Lean function (tested against real Go, not proved from fmt's source: count such statements apart). THE CARD IS WHAT COUNTS. Prove the row's statement (the work); the ties are given (YtmelnaidjgpclaaGreatDoorTie.lean); close each card by the builder's one call (the guide's Derived/Test/ToyasCard.lean, 'card_holds'). Laid BY PROGRAM, IN A SANDBOX (cutbox-door.mjs). By AI agents, Wed Nov 11 2026. No macro, syntax, notation, axiom, sorry.
-/
import Derived.Test.YtmelnaidjgpclaaGreatDoorRows
import GoSem.ClaimSeven
namespace Go.Proofs.YtmelnaidjgpclaaGreatDoor
namespace Rows

/-- THE TIED CARD OF 'laws.FnExactTightOk'. -/
def fnExactTightOkCard : Claim7 := { stood := { row := fnExactTightOkRow, standIns := [], harness := (true, "7db1779e2d7bb7a1194986f5d93ce2d8ecbd55e9889ab6fa3a79ca97ea01e37f"), looks := false }, kinds := [], alts := [], laidByText := true, laidKinds := [.data, .data, .data, .data, .pinned], laidTests := true, laidLooks := .later }
def FnExactTightOkCardSaid : Prop := Claim7.holds Tryz.pinned (.plain (OpenSpec.ofChange fnExactTightOkSpec)) fnExactTightOkCard

/-- THE TIED CARD OF 'laws.FnExactPackedOk'. -/
def fnExactPackedOkCard : Claim7 := { stood := { row := fnExactPackedOkRow, standIns := [], harness := (true, "7db1779e2d7bb7a1194986f5d93ce2d8ecbd55e9889ab6fa3a79ca97ea01e37f"), looks := false }, kinds := [], alts := [], laidByText := true, laidKinds := [.data, .data, .data, .data, .pinned], laidTests := true, laidLooks := .later }
def FnExactPackedOkCardSaid : Prop := Claim7.holds Tryz.pinned (.plain (OpenSpec.ofChange fnExactPackedOkSpec)) fnExactPackedOkCard

/-- THE SECOND FORM's CARD OF 'laws.FnExactTightOk'. -/
def fnExactTightOkUptoCard : Claim7 := { stood := { row := fnExactTightOkUptoRow, standIns := [], harness := (true, "7db1779e2d7bb7a1194986f5d93ce2d8ecbd55e9889ab6fa3a79ca97ea01e37f"), looks := false }, kinds := [], alts := [], laidByText := true, laidKinds := [.data, .data, .data, .data, .pinned], laidTests := true, laidLooks := .later }
def FnExactTightOkUptoCardSaid : Prop := Claim7.holds Tryz.pinned (.plain (OpenSpec.upto fnExactTightOkSpec)) fnExactTightOkUptoCard

/-- THE SECOND FORM's CARD OF 'laws.FnExactPackedOk'. -/
def fnExactPackedOkUptoCard : Claim7 := { stood := { row := fnExactPackedOkUptoRow, standIns := [], harness := (true, "7db1779e2d7bb7a1194986f5d93ce2d8ecbd55e9889ab6fa3a79ca97ea01e37f"), looks := false }, kinds := [], alts := [], laidByText := true, laidKinds := [.data, .data, .data, .data, .pinned], laidTests := true, laidLooks := .later }
def FnExactPackedOkUptoCardSaid : Prop := Claim7.holds Tryz.pinned (.plain (OpenSpec.upto fnExactPackedOkSpec)) fnExactPackedOkUptoCard
end Rows
end Go.Proofs.YtmelnaidjgpclaaGreatDoor
