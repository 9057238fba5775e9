/-
  NARROWER THAN 'FOR EVERY INPUT', by the rows' own cells (each row's printed sentence says how): FnExactMarkFor: loops.
  DERIVED. THE GIVEN ROWS OF THIS SEAT. 12 by the template 'for every input the law returns true; each argument reads behind the call as it read before'; 0 by the template 'total and deterministic' (their statements: YtkkfgbbedpcnoaaTotals.lean).
  GIVEN WITH THE SEED: the statements are not yours to turn. If you find one false, say at which input.
  Laid BY PROGRAM, IN A SANDBOX (cutbox-rows.mjs): the forced cells as the released guide's own fill.sh prints them over the translation 316359b8c3fc793b… (all of the seat's roots in one cut). By AI agents, Wed Nov 11 2026. No macro, syntax, notation, axiom, sorry.
-/
import Derived.Test.YtkkfgbbedpcnoaaChecked
import GoSem.Claim
import GoSem.ClaimJoined
import GoSem.ClaimMapViews
import Derived.JoinedTies
import Derived.KernelRfl
namespace Go.Proofs.Ytkkfgbbedpcnoaa
/- THE CELL 'sum', in the pinned program and in every row, IS THE sha256 OF THE DUMP (.gsa) THAT YtkkfgbbedpcnoaaProg.lean LOADS. Nothing in Lean hashes anything: it is a label: what it is worth is what the hold of that sum in a sandbox is worth. -/
noncomputable def Try.pinned : Pinned := { name := "ytkkfgbbedpcnoaa", sum := "316359b8c3fc793bab71ead4ecdf6013b81f81369ebd6a0df5c4729805672aef", checked := Try.checked }
namespace Rows
def none {H : Type} : Left H := { results := [], args := [] }

/-- 'laws.FnExactCodeName': WHATEVER THE INPUT: true; the input reads as it did. -/
def fnExactCodeNameSpec : ChangeSpec := { name := "fnExactCodeName", fn := fun _ => fun
  | [d] => { results := [.lit (.bool true)], args := [d] }
  | _ => none }
def fnExactCodeNameRow : OpenClaim := { program := "ytkkfgbbedpcnoaa", sum := "316359b8c3fc793bab71ead4ecdf6013b81f81369ebd6a0df5c4729805672aef", func := "loop.example/g00502/laws.FnExactCodeName", spec := "fnExactCodeName", apart := false }
def FnExactCodeNameSaid : Prop := fnExactCodeNameRow.holds Try.pinned (OpenSpec.ofChange fnExactCodeNameSpec)

/-- ITS FALSE NEIGHBOUR: 'it returns false'. Refute it at one input. -/
def fnExactCodeNameWrong : ChangeSpec := { name := "fnExactCodeName", fn := fun _ => fun
  | [d] => { results := [.lit (.bool false)], args := [d] }
  | _ => none }
def FnExactCodeNameWrongFalsely : Prop := fnExactCodeNameRow.holds Try.pinned (OpenSpec.ofChange fnExactCodeNameWrong)

/-- 'laws.FnExactSigned': WHATEVER THE INPUT: true; the input reads as it did. -/
def fnExactSignedSpec : ChangeSpec := { name := "fnExactSigned", fn := fun _ => fun
  | [d1, d2] => { results := [.lit (.bool true)], args := [d1, d2] }
  | _ => none }
def fnExactSignedRow : OpenClaim := { program := "ytkkfgbbedpcnoaa", sum := "316359b8c3fc793bab71ead4ecdf6013b81f81369ebd6a0df5c4729805672aef", func := "loop.example/g00502/laws.FnExactSigned", spec := "fnExactSigned", apart := false }
def FnExactSignedSaid : Prop := fnExactSignedRow.holds Try.pinned (OpenSpec.ofChange fnExactSignedSpec)

/-- ITS FALSE NEIGHBOUR: 'it returns false'. Refute it at one input. -/
def fnExactSignedWrong : ChangeSpec := { name := "fnExactSigned", fn := fun _ => fun
  | [d1, d2] => { results := [.lit (.bool false)], args := [d1, d2] }
  | _ => none }
def FnExactSignedWrongFalsely : Prop := fnExactSignedRow.holds Try.pinned (OpenSpec.ofChange fnExactSignedWrong)

/-- 'laws.FnExactSkip': WHATEVER THE INPUT: true; the input reads as it did. -/
def fnExactSkipSpec : ChangeSpec := { name := "fnExactSkip", fn := fun _ => fun
  | [d1, d2] => { results := [.lit (.bool true)], args := [d1, d2] }
  | _ => none }
def fnExactSkipRow : OpenClaim := { program := "ytkkfgbbedpcnoaa", sum := "316359b8c3fc793bab71ead4ecdf6013b81f81369ebd6a0df5c4729805672aef", func := "loop.example/g00502/laws.FnExactSkip", spec := "fnExactSkip", inPlace := ["internal/bytealg.IndexByteString"], apart := false }
def FnExactSkipSaid : Prop := fnExactSkipRow.holds Try.pinned (OpenSpec.ofChange fnExactSkipSpec)

/-- ITS FALSE NEIGHBOUR: 'it returns false'. Refute it at one input. -/
def fnExactSkipWrong : ChangeSpec := { name := "fnExactSkip", fn := fun _ => fun
  | [d1, d2] => { results := [.lit (.bool false)], args := [d1, d2] }
  | _ => none }
def FnExactSkipWrongFalsely : Prop := fnExactSkipRow.holds Try.pinned (OpenSpec.ofChange fnExactSkipWrong)

/-- 'laws.FnExactLessBytes': WHATEVER THE INPUT: true; the input reads as it did. -/
def fnExactLessBytesSpec : ChangeSpec := { name := "fnExactLessBytes", fn := fun _ => fun
  | [d1, d2] => { results := [.lit (.bool true)], args := [d1, d2] }
  | _ => none }
def fnExactLessBytesRow : OpenClaim := { program := "ytkkfgbbedpcnoaa", sum := "316359b8c3fc793bab71ead4ecdf6013b81f81369ebd6a0df5c4729805672aef", func := "loop.example/g00502/laws.FnExactLessBytes", spec := "fnExactLessBytes", inPlace := ["internal/bytealg.Compare"], apart := false }
def FnExactLessBytesSaid : Prop := fnExactLessBytesRow.holds Try.pinned (OpenSpec.ofChange fnExactLessBytesSpec)

/-- ITS FALSE NEIGHBOUR: 'it returns false'. Refute it at one input. -/
def fnExactLessBytesWrong : ChangeSpec := { name := "fnExactLessBytes", fn := fun _ => fun
  | [d1, d2] => { results := [.lit (.bool false)], args := [d1, d2] }
  | _ => none }
def FnExactLessBytesWrongFalsely : Prop := fnExactLessBytesRow.holds Try.pinned (OpenSpec.ofChange fnExactLessBytesWrong)

/-- 'laws.FnExactFltBits': WHATEVER THE INPUT: true; the input reads as it did. -/
def fnExactFltBitsSpec : ChangeSpec := { name := "fnExactFltBits", fn := fun _ => fun
  | [d] => { results := [.lit (.bool true)], args := [d] }
  | _ => none }
def fnExactFltBitsRow : OpenClaim := { program := "ytkkfgbbedpcnoaa", sum := "316359b8c3fc793bab71ead4ecdf6013b81f81369ebd6a0df5c4729805672aef", func := "loop.example/g00502/laws.FnExactFltBits", spec := "fnExactFltBits", apart := false }
def FnExactFltBitsSaid : Prop := fnExactFltBitsRow.holds Try.pinned (OpenSpec.ofChange fnExactFltBitsSpec)

/-- ITS FALSE NEIGHBOUR: 'it returns false'. Refute it at one input. -/
def fnExactFltBitsWrong : ChangeSpec := { name := "fnExactFltBits", fn := fun _ => fun
  | [d] => { results := [.lit (.bool false)], args := [d] }
  | _ => none }
def FnExactFltBitsWrongFalsely : Prop := fnExactFltBitsRow.holds Try.pinned (OpenSpec.ofChange fnExactFltBitsWrong)

/-- 'laws.FnExactHeadOk': WHATEVER THE INPUT: true; the input reads as it did. -/
def fnExactHeadOkSpec : ChangeSpec := { name := "fnExactHeadOk", fn := fun _ => fun
  | [d] => { results := [.lit (.bool true)], args := [d] }
  | _ => none }
def fnExactHeadOkRow : OpenClaim := { program := "ytkkfgbbedpcnoaa", sum := "316359b8c3fc793bab71ead4ecdf6013b81f81369ebd6a0df5c4729805672aef", func := "loop.example/g00502/laws.FnExactHeadOk", spec := "fnExactHeadOk", apart := false }
def FnExactHeadOkSaid : Prop := fnExactHeadOkRow.holds Try.pinned (OpenSpec.ofChange fnExactHeadOkSpec)

/-- ITS FALSE NEIGHBOUR: 'it returns false'. Refute it at one input. -/
def fnExactHeadOkWrong : ChangeSpec := { name := "fnExactHeadOk", fn := fun _ => fun
  | [d] => { results := [.lit (.bool false)], args := [d] }
  | _ => none }
def FnExactHeadOkWrongFalsely : Prop := fnExactHeadOkRow.holds Try.pinned (OpenSpec.ofChange fnExactHeadOkWrong)

/-- 'laws.FnExactHeadFor': WHATEVER THE INPUT: true; the input reads as it did. -/
def fnExactHeadForSpec : ChangeSpec := { name := "fnExactHeadFor", fn := fun _ => fun
  | [d1, d2] => { results := [.lit (.bool true)], args := [d1, d2] }
  | _ => none }
def fnExactHeadForRow : OpenClaim := { program := "ytkkfgbbedpcnoaa", sum := "316359b8c3fc793bab71ead4ecdf6013b81f81369ebd6a0df5c4729805672aef", func := "loop.example/g00502/laws.FnExactHeadFor", spec := "fnExactHeadFor", apart := false }
def FnExactHeadForSaid : Prop := fnExactHeadForRow.holds Try.pinned (OpenSpec.ofChange fnExactHeadForSpec)

/-- ITS FALSE NEIGHBOUR: 'it returns false'. Refute it at one input. -/
def fnExactHeadForWrong : ChangeSpec := { name := "fnExactHeadFor", fn := fun _ => fun
  | [d1, d2] => { results := [.lit (.bool false)], args := [d1, d2] }
  | _ => none }
def FnExactHeadForWrongFalsely : Prop := fnExactHeadForRow.holds Try.pinned (OpenSpec.ofChange fnExactHeadForWrong)

/-- 'laws.FnExactBitsFlt': WHATEVER THE INPUT: true; the input reads as it did. -/
def fnExactBitsFltSpec : ChangeSpec := { name := "fnExactBitsFlt", fn := fun _ => fun
  | [d] => { results := [.lit (.bool true)], args := [d] }
  | _ => none }
def fnExactBitsFltRow : OpenClaim := { program := "ytkkfgbbedpcnoaa", sum := "316359b8c3fc793bab71ead4ecdf6013b81f81369ebd6a0df5c4729805672aef", func := "loop.example/g00502/laws.FnExactBitsFlt", spec := "fnExactBitsFlt", apart := false }
def FnExactBitsFltSaid : Prop := fnExactBitsFltRow.holds Try.pinned (OpenSpec.ofChange fnExactBitsFltSpec)

/-- ITS FALSE NEIGHBOUR: 'it returns false'. Refute it at one input. -/
def fnExactBitsFltWrong : ChangeSpec := { name := "fnExactBitsFlt", fn := fun _ => fun
  | [d] => { results := [.lit (.bool false)], args := [d] }
  | _ => none }
def FnExactBitsFltWrongFalsely : Prop := fnExactBitsFltRow.holds Try.pinned (OpenSpec.ofChange fnExactBitsFltWrong)

/-- 'laws.FnExactEscapeOf': WHATEVER THE INPUT: true; the input reads as it did. -/
def fnExactEscapeOfSpec : ChangeSpec := { name := "fnExactEscapeOf", fn := fun _ => fun
  | [d] => { results := [.lit (.bool true)], args := [d] }
  | _ => none }
def fnExactEscapeOfRow : OpenClaim := { program := "ytkkfgbbedpcnoaa", sum := "316359b8c3fc793bab71ead4ecdf6013b81f81369ebd6a0df5c4729805672aef", func := "loop.example/g00502/laws.FnExactEscapeOf", spec := "fnExactEscapeOf", inPlace := ["internal/bytealg.IndexByteString"], apart := false }
def FnExactEscapeOfSaid : Prop := fnExactEscapeOfRow.holds Try.pinned (OpenSpec.ofChange fnExactEscapeOfSpec)

/-- ITS FALSE NEIGHBOUR: 'it returns false'. Refute it at one input. -/
def fnExactEscapeOfWrong : ChangeSpec := { name := "fnExactEscapeOf", fn := fun _ => fun
  | [d] => { results := [.lit (.bool false)], args := [d] }
  | _ => none }
def FnExactEscapeOfWrongFalsely : Prop := fnExactEscapeOfRow.holds Try.pinned (OpenSpec.ofChange fnExactEscapeOfWrong)

/-- 'laws.FnExactSignOk': WHATEVER THE INPUT: true; the input reads as it did. -/
def fnExactSignOkSpec : ChangeSpec := { name := "fnExactSignOk", fn := fun _ => fun
  | [d] => { results := [.lit (.bool true)], args := [d] }
  | _ => none }
def fnExactSignOkRow : OpenClaim := { program := "ytkkfgbbedpcnoaa", sum := "316359b8c3fc793bab71ead4ecdf6013b81f81369ebd6a0df5c4729805672aef", func := "loop.example/g00502/laws.FnExactSignOk", spec := "fnExactSignOk", inPlace := ["internal/bytealg.IndexByteString", "internal/bytealg.IndexString"], named := ["internal/bytealg.MaxLen"], apart := false }
def FnExactSignOkSaid : Prop := fnExactSignOkRow.holds Try.pinned (OpenSpec.ofChange fnExactSignOkSpec)

/-- ITS FALSE NEIGHBOUR: 'it returns false'. Refute it at one input. -/
def fnExactSignOkWrong : ChangeSpec := { name := "fnExactSignOk", fn := fun _ => fun
  | [d] => { results := [.lit (.bool false)], args := [d] }
  | _ => none }
def FnExactSignOkWrongFalsely : Prop := fnExactSignOkRow.holds Try.pinned (OpenSpec.ofChange fnExactSignOkWrong)

/-- 'laws.FnExactMarkOk': WHATEVER THE INPUT: true; the input reads as it did. -/
def fnExactMarkOkSpec : ChangeSpec := { name := "fnExactMarkOk", fn := fun _ => fun
  | [d] => { results := [.lit (.bool true)], args := [d] }
  | _ => none }
def fnExactMarkOkRow : OpenClaim := { program := "ytkkfgbbedpcnoaa", sum := "316359b8c3fc793bab71ead4ecdf6013b81f81369ebd6a0df5c4729805672aef", func := "loop.example/g00502/laws.FnExactMarkOk", spec := "fnExactMarkOk", apart := false }
def FnExactMarkOkSaid : Prop := fnExactMarkOkRow.holds Try.pinned (OpenSpec.ofChange fnExactMarkOkSpec)

/-- ITS FALSE NEIGHBOUR: 'it returns false'. Refute it at one input. -/
def fnExactMarkOkWrong : ChangeSpec := { name := "fnExactMarkOk", fn := fun _ => fun
  | [d] => { results := [.lit (.bool false)], args := [d] }
  | _ => none }
def FnExactMarkOkWrongFalsely : Prop := fnExactMarkOkRow.holds Try.pinned (OpenSpec.ofChange fnExactMarkOkWrong)

/-- 'laws.FnExactMarkFor': WHATEVER THE INPUT: true; the input reads as it did. -/
def fnExactMarkForSpec : ChangeSpec := { name := "fnExactMarkFor", fn := fun _ => fun
  | [d] => { results := [.lit (.bool true)], args := [d] }
  | _ => none }
def fnExactMarkForRow : OpenClaim := { program := "ytkkfgbbedpcnoaa", sum := "316359b8c3fc793bab71ead4ecdf6013b81f81369ebd6a0df5c4729805672aef", func := "loop.example/g00502/laws.FnExactMarkFor", spec := "fnExactMarkFor", recurses := true, loops := true, apart := false }
def FnExactMarkForSaid : Prop := fnExactMarkForRow.holds Try.pinned (OpenSpec.ofChange fnExactMarkForSpec)

/-- ITS FALSE NEIGHBOUR: 'it returns false'. Refute it at one input. -/
def fnExactMarkForWrong : ChangeSpec := { name := "fnExactMarkFor", fn := fun _ => fun
  | [d] => { results := [.lit (.bool false)], args := [d] }
  | _ => none }
def FnExactMarkForWrongFalsely : Prop := fnExactMarkForRow.holds Try.pinned (OpenSpec.ofChange fnExactMarkForWrong)

/- THE SECOND FORM. 'bulk': how many values and letters a reading holds, each counted each time it is reached (what is shared counts as often as it is met; a slice's spare places count too). A statement '..UptoSaid' is the law's where the arguments, and the package variables that the reading takes, are together of bulk at most 1048576: NARROWER than '..Said'. Prove '..Said' where nothing that the law and all that it calls make is longer than what came in: it says more and counts as full. Else prove '..UptoSaid'. A law counts once. -/
mutual
def uptoBulk {H : Type} : DataW H → Nat
  | .lit (.string bytes) => bytes.length + 1
  | .lit _ => 1
  | .nil => 1
  | .ptr d => uptoBulk d + 1
  | .slice elems spare => uptoBulkAll elems + uptoBulkAll spare + 1
  | .agg parts => uptoBulkAll parts + 1
  | .iface _ d => uptoBulk d + 1
  | .map entries => uptoBulkEntries entries + 1
  | .held _ => 1
def uptoBulkAll {H : Type} : List (DataW H) → Nat
  | [] => 0
  | d :: r => uptoBulk d + uptoBulkAll r
def uptoBulkEntries {H : Type} : List (Lit × DataW H) → Nat
  | [] => 0
  | x :: r => uptoBulkEntry x + uptoBulkEntries r
def uptoBulkEntry {H : Type} : Lit × DataW H → Nat
  | (.string bytes, d) => bytes.length + uptoBulk d + 1
  | (_, d) => uptoBulk d + 1
 end
def uptoSmall : (H : Type) → List (DataW H) → Bool := fun _ ds => decide (uptoBulkAll ds ≤ 1048576)
def OpenSpec.upto (s : _root_.Go.ChangeSpec) : _root_.Go.OpenSpec := { _root_.Go.OpenSpec.ofChange s with cond := some uptoSmall }

/-- 'laws.FnExactCodeName', WHERE WHAT IT READS IS OF BULK AT MOST 1048576: true; the input reads as it did. -/
def fnExactCodeNameUptoRow : OpenClaim := { program := "ytkkfgbbedpcnoaa", sum := "316359b8c3fc793bab71ead4ecdf6013b81f81369ebd6a0df5c4729805672aef", func := "loop.example/g00502/laws.FnExactCodeName", spec := "fnExactCodeName", apart := false, narrowed := true }
def FnExactCodeNameUptoSaid : Prop := fnExactCodeNameUptoRow.holds Try.pinned (OpenSpec.upto fnExactCodeNameSpec)

/-- 'laws.FnExactSigned', WHERE WHAT IT READS IS OF BULK AT MOST 1048576: true; the input reads as it did. -/
def fnExactSignedUptoRow : OpenClaim := { program := "ytkkfgbbedpcnoaa", sum := "316359b8c3fc793bab71ead4ecdf6013b81f81369ebd6a0df5c4729805672aef", func := "loop.example/g00502/laws.FnExactSigned", spec := "fnExactSigned", apart := false, narrowed := true }
def FnExactSignedUptoSaid : Prop := fnExactSignedUptoRow.holds Try.pinned (OpenSpec.upto fnExactSignedSpec)

/-- 'laws.FnExactSkip', WHERE WHAT IT READS IS OF BULK AT MOST 1048576: true; the input reads as it did. -/
def fnExactSkipUptoRow : OpenClaim := { program := "ytkkfgbbedpcnoaa", sum := "316359b8c3fc793bab71ead4ecdf6013b81f81369ebd6a0df5c4729805672aef", func := "loop.example/g00502/laws.FnExactSkip", spec := "fnExactSkip", inPlace := ["internal/bytealg.IndexByteString"], apart := false, narrowed := true }
def FnExactSkipUptoSaid : Prop := fnExactSkipUptoRow.holds Try.pinned (OpenSpec.upto fnExactSkipSpec)

/-- 'laws.FnExactLessBytes', WHERE WHAT IT READS IS OF BULK AT MOST 1048576: true; the input reads as it did. -/
def fnExactLessBytesUptoRow : OpenClaim := { program := "ytkkfgbbedpcnoaa", sum := "316359b8c3fc793bab71ead4ecdf6013b81f81369ebd6a0df5c4729805672aef", func := "loop.example/g00502/laws.FnExactLessBytes", spec := "fnExactLessBytes", inPlace := ["internal/bytealg.Compare"], apart := false, narrowed := true }
def FnExactLessBytesUptoSaid : Prop := fnExactLessBytesUptoRow.holds Try.pinned (OpenSpec.upto fnExactLessBytesSpec)

/-- 'laws.FnExactFltBits', WHERE WHAT IT READS IS OF BULK AT MOST 1048576: true; the input reads as it did. -/
def fnExactFltBitsUptoRow : OpenClaim := { program := "ytkkfgbbedpcnoaa", sum := "316359b8c3fc793bab71ead4ecdf6013b81f81369ebd6a0df5c4729805672aef", func := "loop.example/g00502/laws.FnExactFltBits", spec := "fnExactFltBits", apart := false, narrowed := true }
def FnExactFltBitsUptoSaid : Prop := fnExactFltBitsUptoRow.holds Try.pinned (OpenSpec.upto fnExactFltBitsSpec)

/-- 'laws.FnExactHeadOk', WHERE WHAT IT READS IS OF BULK AT MOST 1048576: true; the input reads as it did. -/
def fnExactHeadOkUptoRow : OpenClaim := { program := "ytkkfgbbedpcnoaa", sum := "316359b8c3fc793bab71ead4ecdf6013b81f81369ebd6a0df5c4729805672aef", func := "loop.example/g00502/laws.FnExactHeadOk", spec := "fnExactHeadOk", apart := false, narrowed := true }
def FnExactHeadOkUptoSaid : Prop := fnExactHeadOkUptoRow.holds Try.pinned (OpenSpec.upto fnExactHeadOkSpec)

/-- 'laws.FnExactHeadFor', WHERE WHAT IT READS IS OF BULK AT MOST 1048576: true; the input reads as it did. -/
def fnExactHeadForUptoRow : OpenClaim := { program := "ytkkfgbbedpcnoaa", sum := "316359b8c3fc793bab71ead4ecdf6013b81f81369ebd6a0df5c4729805672aef", func := "loop.example/g00502/laws.FnExactHeadFor", spec := "fnExactHeadFor", apart := false, narrowed := true }
def FnExactHeadForUptoSaid : Prop := fnExactHeadForUptoRow.holds Try.pinned (OpenSpec.upto fnExactHeadForSpec)

/-- 'laws.FnExactBitsFlt', WHERE WHAT IT READS IS OF BULK AT MOST 1048576: true; the input reads as it did. -/
def fnExactBitsFltUptoRow : OpenClaim := { program := "ytkkfgbbedpcnoaa", sum := "316359b8c3fc793bab71ead4ecdf6013b81f81369ebd6a0df5c4729805672aef", func := "loop.example/g00502/laws.FnExactBitsFlt", spec := "fnExactBitsFlt", apart := false, narrowed := true }
def FnExactBitsFltUptoSaid : Prop := fnExactBitsFltUptoRow.holds Try.pinned (OpenSpec.upto fnExactBitsFltSpec)

/-- 'laws.FnExactEscapeOf', WHERE WHAT IT READS IS OF BULK AT MOST 1048576: true; the input reads as it did. -/
def fnExactEscapeOfUptoRow : OpenClaim := { program := "ytkkfgbbedpcnoaa", sum := "316359b8c3fc793bab71ead4ecdf6013b81f81369ebd6a0df5c4729805672aef", func := "loop.example/g00502/laws.FnExactEscapeOf", spec := "fnExactEscapeOf", inPlace := ["internal/bytealg.IndexByteString"], apart := false, narrowed := true }
def FnExactEscapeOfUptoSaid : Prop := fnExactEscapeOfUptoRow.holds Try.pinned (OpenSpec.upto fnExactEscapeOfSpec)

/-- 'laws.FnExactSignOk', WHERE WHAT IT READS IS OF BULK AT MOST 1048576: true; the input reads as it did. -/
def fnExactSignOkUptoRow : OpenClaim := { program := "ytkkfgbbedpcnoaa", sum := "316359b8c3fc793bab71ead4ecdf6013b81f81369ebd6a0df5c4729805672aef", func := "loop.example/g00502/laws.FnExactSignOk", spec := "fnExactSignOk", inPlace := ["internal/bytealg.IndexByteString", "internal/bytealg.IndexString"], named := ["internal/bytealg.MaxLen"], apart := false, narrowed := true }
def FnExactSignOkUptoSaid : Prop := fnExactSignOkUptoRow.holds Try.pinned (OpenSpec.upto fnExactSignOkSpec)

/-- 'laws.FnExactMarkOk', WHERE WHAT IT READS IS OF BULK AT MOST 1048576: true; the input reads as it did. -/
def fnExactMarkOkUptoRow : OpenClaim := { program := "ytkkfgbbedpcnoaa", sum := "316359b8c3fc793bab71ead4ecdf6013b81f81369ebd6a0df5c4729805672aef", func := "loop.example/g00502/laws.FnExactMarkOk", spec := "fnExactMarkOk", apart := false, narrowed := true }
def FnExactMarkOkUptoSaid : Prop := fnExactMarkOkUptoRow.holds Try.pinned (OpenSpec.upto fnExactMarkOkSpec)

/-- 'laws.FnExactMarkFor', WHERE WHAT IT READS IS OF BULK AT MOST 1048576: true; the input reads as it did. -/
def fnExactMarkForUptoRow : OpenClaim := { program := "ytkkfgbbedpcnoaa", sum := "316359b8c3fc793bab71ead4ecdf6013b81f81369ebd6a0df5c4729805672aef", func := "loop.example/g00502/laws.FnExactMarkFor", spec := "fnExactMarkFor", recurses := true, loops := true, apart := false, narrowed := true }
def FnExactMarkForUptoSaid : Prop := fnExactMarkForUptoRow.holds Try.pinned (OpenSpec.upto fnExactMarkForSpec)

end Rows
end Go.Proofs.Ytkkfgbbedpcnoaa
