/-
  DERIVED. GIVEN WITH THE SEED: THE CARDS: each row of YtgddnpglgakkdaaGreatDoorRows.lean that lists a variable, with what it lists TIED to the program's text (the seventh form; the later family's looks); each row that meets fmt, with fmt's text TOLD by the authors' own Lean function (tested against real Go, not proved from fmt's source: count such statements apart). THE CARD IS WHAT COUNTS. Prove the row's statement (the work); the ties are given (YtgddnpglgakkdaaGreatDoorTie.lean); close each card by the builder's one call (the guide's Derived/Test/ToyasCard.lean, 'card_holds'). Laid BY PROGRAM, IN A SANDBOX (cutbox-door.mjs). By AI agents, Wed Nov 11 2026. No macro, syntax, notation, axiom, sorry.
-/
import Derived.Test.YtgddnpglgakkdaaGreatDoorRows
import GoSem.ClaimSeven
namespace Go.Proofs.YtgddnpglgakkdaaGreatDoor
namespace Rows

/-- THE TIED CARD OF 'laws.FnExactReformat'. -/
def fnExactReformatCard : Claim7 := { stood := { row := fnExactReformatRow, standIns := [], harness := (true, "ca056a3f783b80c0243ebfa4829fc099b087503c16213381b6b58484cf72d228"), looks := true }, kinds := [], alts := [], laidByText := true, laidKinds := [.data, .data, .data, .data, .sentinel, .sentinel, .pinned, .pinned], laidTests := true, laidLooks := .later }
def FnExactReformatCardSaid : Prop := Claim7.holds Tryz.pinned (.plain (OpenSpec.ofChange fnExactReformatSpec)) fnExactReformatCard

/-- THE TIED CARD OF 'laws.FnExactTokensOf'. -/
def fnExactTokensOfCard : Claim7 := { stood := { row := fnExactTokensOfRow, standIns := [], harness := (true, "ca056a3f783b80c0243ebfa4829fc099b087503c16213381b6b58484cf72d228"), looks := true }, kinds := [], alts := [], laidByText := true, laidKinds := [.data, .data, .data, .data, .sentinel, .sentinel, .pinned, .pinned], laidTests := true, laidLooks := .later }
def FnExactTokensOfCardSaid : Prop := Claim7.holds Tryz.pinned (.plain (OpenSpec.ofChange fnExactTokensOfSpec)) fnExactTokensOfCard

/-- THE TIED CARD OF 'laws.FnExactReadToken'. -/
def fnExactReadTokenCard : Claim7 := { stood := { row := fnExactReadTokenRow, standIns := [], harness := (true, "ca056a3f783b80c0243ebfa4829fc099b087503c16213381b6b58484cf72d228"), looks := true }, kinds := [], alts := [], laidByText := true, laidKinds := [.data, .data, .data, .data, .sentinel, .sentinel, .pinned, .pinned], laidTests := true, laidLooks := .later }
def FnExactReadTokenCardSaid : Prop := Claim7.holds Tryz.pinned (.plain (OpenSpec.ofChange fnExactReadTokenSpec)) fnExactReadTokenCard

/-- THE TIED CARD OF 'laws.FnExactTokens'. -/
def fnExactTokensCard : Claim7 := { stood := { row := fnExactTokensRow, standIns := [], harness := (true, "ca056a3f783b80c0243ebfa4829fc099b087503c16213381b6b58484cf72d228"), looks := true }, kinds := [], alts := [], laidByText := true, laidKinds := [.data, .data, .data, .data, .sentinel, .sentinel, .pinned, .pinned], laidTests := true, laidLooks := .later }
def FnExactTokensCardSaid : Prop := Claim7.holds Tryz.pinned (.plain (OpenSpec.ofChange fnExactTokensSpec)) fnExactTokensCard

/-- THE SECOND FORM's CARD OF 'laws.FnExactReformat'. -/
def fnExactReformatUptoCard : Claim7 := { stood := { row := fnExactReformatUptoRow, standIns := [], harness := (true, "ca056a3f783b80c0243ebfa4829fc099b087503c16213381b6b58484cf72d228"), looks := true }, kinds := [], alts := [], laidByText := true, laidKinds := [.data, .data, .data, .data, .sentinel, .sentinel, .pinned, .pinned], laidTests := true, laidLooks := .later }
def FnExactReformatUptoCardSaid : Prop := Claim7.holds Tryz.pinned (.plain (OpenSpec.upto fnExactReformatSpec)) fnExactReformatUptoCard

/-- THE SECOND FORM's CARD OF 'laws.FnExactTokensOf'. -/
def fnExactTokensOfUptoCard : Claim7 := { stood := { row := fnExactTokensOfUptoRow, standIns := [], harness := (true, "ca056a3f783b80c0243ebfa4829fc099b087503c16213381b6b58484cf72d228"), looks := true }, kinds := [], alts := [], laidByText := true, laidKinds := [.data, .data, .data, .data, .sentinel, .sentinel, .pinned, .pinned], laidTests := true, laidLooks := .later }
def FnExactTokensOfUptoCardSaid : Prop := Claim7.holds Tryz.pinned (.plain (OpenSpec.upto fnExactTokensOfSpec)) fnExactTokensOfUptoCard

/-- THE SECOND FORM's CARD OF 'laws.FnExactReadToken'. -/
def fnExactReadTokenUptoCard : Claim7 := { stood := { row := fnExactReadTokenUptoRow, standIns := [], harness := (true, "ca056a3f783b80c0243ebfa4829fc099b087503c16213381b6b58484cf72d228"), looks := true }, kinds := [], alts := [], laidByText := true, laidKinds := [.data, .data, .data, .data, .sentinel, .sentinel, .pinned, .pinned], laidTests := true, laidLooks := .later }
def FnExactReadTokenUptoCardSaid : Prop := Claim7.holds Tryz.pinned (.plain (OpenSpec.upto fnExactReadTokenSpec)) fnExactReadTokenUptoCard

/-- THE SECOND FORM's CARD OF 'laws.FnExactTokens'. -/
def fnExactTokensUptoCard : Claim7 := { stood := { row := fnExactTokensUptoRow, standIns := [], harness := (true, "ca056a3f783b80c0243ebfa4829fc099b087503c16213381b6b58484cf72d228"), looks := true }, kinds := [], alts := [], laidByText := true, laidKinds := [.data, .data, .data, .data, .sentinel, .sentinel, .pinned, .pinned], laidTests := true, laidLooks := .later }
def FnExactTokensUptoCardSaid : Prop := Claim7.holds Tryz.pinned (.plain (OpenSpec.upto fnExactTokensSpec)) fnExactTokensUptoCard
end Rows
end Go.Proofs.YtgddnpglgakkdaaGreatDoor
