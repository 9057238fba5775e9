/-
  DERIVED. GIVEN WITH THE SEED: THE CARDS: each row of YtmelnaidjgpclaaDoorRows.lean that lists a variable, with what it lists TIED to the program's text (the seventh form; the later family's looks); each row that meets fmt, with fmt's text TOLD by the authors' own Lean function (tested against real Go, not proved from fmt's source: count such statements apart). THE CARD IS WHAT COUNTS. Prove the row's statement (the work); the ties are given (YtmelnaidjgpclaaDoorTie.lean); close each card by the builder's one call (the guide's Derived/Test/ToyasCard.lean, 'card_holds'). Laid BY PROGRAM, IN A SANDBOX (cutbox-door.mjs). By AI agents, Wed Nov 11 2026. No macro, syntax, notation, axiom, sorry.
-/
import Derived.Test.YtmelnaidjgpclaaDoorRows
import GoSem.ClaimSeven
namespace Go.Proofs.YtmelnaidjgpclaaDoor
namespace Rows

/-- THE TIED CARD OF 'laws.FnExactGetPacked'. -/
def fnExactGetPackedCard : Claim7 := { stood := { row := fnExactGetPackedRow, standIns := [], harness := (true, "9d39bbdd2ce8395f938d5d9597c02507e44055236958604b7a4d99aa4413f05b"), looks := false }, kinds := [], alts := [], laidByText := true, laidKinds := [.data, .pinned], laidTests := true, laidLooks := .later }
def FnExactGetPackedCardSaid : Prop := Claim7.holds Tryd.pinned (.plain (OpenSpec.ofChange fnExactGetPackedSpec)) fnExactGetPackedCard

/-- THE TIED CARD OF 'laws.FnExactReadPacked'. -/
def fnExactReadPackedCard : Claim7 := { stood := { row := fnExactReadPackedRow, standIns := [], harness := (true, "9d39bbdd2ce8395f938d5d9597c02507e44055236958604b7a4d99aa4413f05b"), looks := false }, kinds := [], alts := [], laidByText := true, laidKinds := [.data, .pinned], laidTests := true, laidLooks := .later }
def FnExactReadPackedCardSaid : Prop := Claim7.holds Tryd.pinned (.plain (OpenSpec.ofChange fnExactReadPackedSpec)) fnExactReadPackedCard

/-- THE TIED CARD OF 'laws.FnExactGetTight'. -/
def fnExactGetTightCard : Claim7 := { stood := { row := fnExactGetTightRow, standIns := [], harness := (true, "9d39bbdd2ce8395f938d5d9597c02507e44055236958604b7a4d99aa4413f05b"), looks := false }, kinds := [], alts := [], laidByText := true, laidKinds := [.data, .pinned], laidTests := true, laidLooks := .later }
def FnExactGetTightCardSaid : Prop := Claim7.holds Tryd.pinned (.plain (OpenSpec.ofChange fnExactGetTightSpec)) fnExactGetTightCard

/-- THE TIED CARD OF 'laws.FnExactReadTight'. -/
def fnExactReadTightCard : Claim7 := { stood := { row := fnExactReadTightRow, standIns := [], harness := (true, "9d39bbdd2ce8395f938d5d9597c02507e44055236958604b7a4d99aa4413f05b"), looks := false }, kinds := [], alts := [], laidByText := true, laidKinds := [.data, .pinned], laidTests := true, laidLooks := .later }
def FnExactReadTightCardSaid : Prop := Claim7.holds Tryd.pinned (.plain (OpenSpec.ofChange fnExactReadTightSpec)) fnExactReadTightCard

/-- THE SECOND FORM's CARD OF 'laws.FnExactGetPacked'. -/
def fnExactGetPackedUptoCard : Claim7 := { stood := { row := fnExactGetPackedUptoRow, standIns := [], harness := (true, "9d39bbdd2ce8395f938d5d9597c02507e44055236958604b7a4d99aa4413f05b"), looks := false }, kinds := [], alts := [], laidByText := true, laidKinds := [.data, .pinned], laidTests := true, laidLooks := .later }
def FnExactGetPackedUptoCardSaid : Prop := Claim7.holds Tryd.pinned (.plain (OpenSpec.upto fnExactGetPackedSpec)) fnExactGetPackedUptoCard

/-- THE SECOND FORM's CARD OF 'laws.FnExactReadPacked'. -/
def fnExactReadPackedUptoCard : Claim7 := { stood := { row := fnExactReadPackedUptoRow, standIns := [], harness := (true, "9d39bbdd2ce8395f938d5d9597c02507e44055236958604b7a4d99aa4413f05b"), looks := false }, kinds := [], alts := [], laidByText := true, laidKinds := [.data, .pinned], laidTests := true, laidLooks := .later }
def FnExactReadPackedUptoCardSaid : Prop := Claim7.holds Tryd.pinned (.plain (OpenSpec.upto fnExactReadPackedSpec)) fnExactReadPackedUptoCard

/-- THE SECOND FORM's CARD OF 'laws.FnExactGetTight'. -/
def fnExactGetTightUptoCard : Claim7 := { stood := { row := fnExactGetTightUptoRow, standIns := [], harness := (true, "9d39bbdd2ce8395f938d5d9597c02507e44055236958604b7a4d99aa4413f05b"), looks := false }, kinds := [], alts := [], laidByText := true, laidKinds := [.data, .pinned], laidTests := true, laidLooks := .later }
def FnExactGetTightUptoCardSaid : Prop := Claim7.holds Tryd.pinned (.plain (OpenSpec.upto fnExactGetTightSpec)) fnExactGetTightUptoCard

/-- THE SECOND FORM's CARD OF 'laws.FnExactReadTight'. -/
def fnExactReadTightUptoCard : Claim7 := { stood := { row := fnExactReadTightUptoRow, standIns := [], harness := (true, "9d39bbdd2ce8395f938d5d9597c02507e44055236958604b7a4d99aa4413f05b"), looks := false }, kinds := [], alts := [], laidByText := true, laidKinds := [.data, .pinned], laidTests := true, laidLooks := .later }
def FnExactReadTightUptoCardSaid : Prop := Claim7.holds Tryd.pinned (.plain (OpenSpec.upto fnExactReadTightSpec)) fnExactReadTightUptoCard
end Rows
end Go.Proofs.YtmelnaidjgpclaaDoor
