/-
  NARROWER THAN 'FOR EVERY INPUT', by the rows' own cells (each row's printed sentence says how): FnExactAllPaths: loops · FnExactAtPath: loops · FnExactPutAt: loops · FnExactLessTight: loops · FnExactPackTight: loops · FnExactOpenUp: loops · FnExactLooseTight: loops · FnExactSortTight: loops · FnExactPackPacked: loops.
  DERIVED. THE GIVEN ROWS OF THIS SEAT. 15 by the template 'for every input the law returns true; each argument reads behind the call as it read before'; 0 by the template 'total and deterministic' (their statements: YtnfokfogmniehaaTotals.lean).
  GIVEN WITH THE SEED: the statements are not yours to turn. If you find one false, say at which input.
  Laid BY PROGRAM, IN A SANDBOX (cutbox-rows.mjs): the forced cells as the released guide's own fill.sh prints them over the translation 455e59a80586a38d… (all of the seat's roots in one cut). By AI agents, Wed Nov 11 2026. No macro, syntax, notation, axiom, sorry.
-/
import Derived.Test.YtnfokfogmniehaaChecked
import GoSem.Claim
import GoSem.ClaimJoined
import GoSem.ClaimMapViews
import Derived.JoinedTies
import Derived.KernelRfl
namespace Go.Proofs.Ytnfokfogmniehaa
/- THE CELL 'sum', in the pinned program and in every row, IS THE sha256 OF THE DUMP (.gsa) THAT YtnfokfogmniehaaProg.lean LOADS. Nothing in Lean hashes anything: it is a label: what it is worth is what the hold of that sum in a sandbox is worth. -/
noncomputable def Try.pinned : Pinned := { name := "ytnfokfogmniehaa", sum := "455e59a80586a38d2ca1f91c12f3db86e56f005382898162497c9d1a415e8564", checked := Try.checked }
namespace Rows
def none {H : Type} : Left H := { results := [], args := [] }

/-- 'laws.FnExactPutHead': WHATEVER THE INPUT: true; the input reads as it did. -/
def fnExactPutHeadSpec : ChangeSpec := { name := "fnExactPutHead", fn := fun _ => fun
  | [d1, d2] => { results := [.lit (.bool true)], args := [d1, d2] }
  | _ => none }
def fnExactPutHeadRow : OpenClaim := { program := "ytnfokfogmniehaa", sum := "455e59a80586a38d2ca1f91c12f3db86e56f005382898162497c9d1a415e8564", func := "loop.example/g00502/laws.FnExactPutHead", spec := "fnExactPutHead", apart := false }
def FnExactPutHeadSaid : Prop := fnExactPutHeadRow.holds Try.pinned (OpenSpec.ofChange fnExactPutHeadSpec)

/-- ITS FALSE NEIGHBOUR: 'it returns false'. Refute it at one input. -/
def fnExactPutHeadWrong : ChangeSpec := { name := "fnExactPutHead", fn := fun _ => fun
  | [d1, d2] => { results := [.lit (.bool false)], args := [d1, d2] }
  | _ => none }
def FnExactPutHeadWrongFalsely : Prop := fnExactPutHeadRow.holds Try.pinned (OpenSpec.ofChange fnExactPutHeadWrong)

/-- 'laws.FnExactGetHead': WHATEVER THE INPUT: true; the input reads as it did. -/
def fnExactGetHeadSpec : ChangeSpec := { name := "fnExactGetHead", fn := fun _ => fun
  | [d1, d2] => { results := [.lit (.bool true)], args := [d1, d2] }
  | _ => none }
def fnExactGetHeadRow : OpenClaim := { program := "ytnfokfogmniehaa", sum := "455e59a80586a38d2ca1f91c12f3db86e56f005382898162497c9d1a415e8564", func := "loop.example/g00502/laws.FnExactGetHead", spec := "fnExactGetHead", apart := false }
def FnExactGetHeadSaid : Prop := fnExactGetHeadRow.holds Try.pinned (OpenSpec.ofChange fnExactGetHeadSpec)

/-- ITS FALSE NEIGHBOUR: 'it returns false'. Refute it at one input. -/
def fnExactGetHeadWrong : ChangeSpec := { name := "fnExactGetHead", fn := fun _ => fun
  | [d1, d2] => { results := [.lit (.bool false)], args := [d1, d2] }
  | _ => none }
def FnExactGetHeadWrongFalsely : Prop := fnExactGetHeadRow.holds Try.pinned (OpenSpec.ofChange fnExactGetHeadWrong)

/-- 'laws.FnExactHeadsIn': WHATEVER THE INPUT: true; the input reads as it did. -/
def fnExactHeadsInSpec : ChangeSpec := { name := "fnExactHeadsIn", fn := fun _ => fun
  | [d] => { results := [.lit (.bool true)], args := [d] }
  | _ => none }
def fnExactHeadsInRow : OpenClaim := { program := "ytnfokfogmniehaa", sum := "455e59a80586a38d2ca1f91c12f3db86e56f005382898162497c9d1a415e8564", func := "loop.example/g00502/laws.FnExactHeadsIn", spec := "fnExactHeadsIn", apart := false }
def FnExactHeadsInSaid : Prop := fnExactHeadsInRow.holds Try.pinned (OpenSpec.ofChange fnExactHeadsInSpec)

/-- ITS FALSE NEIGHBOUR: 'it returns false'. Refute it at one input. -/
def fnExactHeadsInWrong : ChangeSpec := { name := "fnExactHeadsIn", fn := fun _ => fun
  | [d] => { results := [.lit (.bool false)], args := [d] }
  | _ => none }
def FnExactHeadsInWrongFalsely : Prop := fnExactHeadsInRow.holds Try.pinned (OpenSpec.ofChange fnExactHeadsInWrong)

/-- 'laws.FnExactAllPaths': WHATEVER THE INPUT: true; the input reads as it did. -/
def fnExactAllPathsSpec : ChangeSpec := { name := "fnExactAllPaths", fn := fun _ => fun
  | [d] => { results := [.lit (.bool true)], args := [d] }
  | _ => none }
def fnExactAllPathsRow : OpenClaim := { program := "ytnfokfogmniehaa", sum := "455e59a80586a38d2ca1f91c12f3db86e56f005382898162497c9d1a415e8564", func := "loop.example/g00502/laws.FnExactAllPaths", spec := "fnExactAllPaths", recurses := true, loops := true, apart := false }
def FnExactAllPathsSaid : Prop := fnExactAllPathsRow.holds Try.pinned (OpenSpec.ofChange fnExactAllPathsSpec)

/-- ITS FALSE NEIGHBOUR: 'it returns false'. Refute it at one input. -/
def fnExactAllPathsWrong : ChangeSpec := { name := "fnExactAllPaths", fn := fun _ => fun
  | [d] => { results := [.lit (.bool false)], args := [d] }
  | _ => none }
def FnExactAllPathsWrongFalsely : Prop := fnExactAllPathsRow.holds Try.pinned (OpenSpec.ofChange fnExactAllPathsWrong)

/-- 'laws.FnExactAtPath': WHATEVER THE INPUT: true; the input reads as it did. -/
def fnExactAtPathSpec : ChangeSpec := { name := "fnExactAtPath", fn := fun _ => fun
  | [d1, d2] => { results := [.lit (.bool true)], args := [d1, d2] }
  | _ => none }
def fnExactAtPathRow : OpenClaim := { program := "ytnfokfogmniehaa", sum := "455e59a80586a38d2ca1f91c12f3db86e56f005382898162497c9d1a415e8564", func := "loop.example/g00502/laws.FnExactAtPath", spec := "fnExactAtPath", recurses := true, loops := true, apart := false }
def FnExactAtPathSaid : Prop := fnExactAtPathRow.holds Try.pinned (OpenSpec.ofChange fnExactAtPathSpec)

/-- ITS FALSE NEIGHBOUR: 'it returns false'. Refute it at one input. -/
def fnExactAtPathWrong : ChangeSpec := { name := "fnExactAtPath", fn := fun _ => fun
  | [d1, d2] => { results := [.lit (.bool false)], args := [d1, d2] }
  | _ => none }
def FnExactAtPathWrongFalsely : Prop := fnExactAtPathRow.holds Try.pinned (OpenSpec.ofChange fnExactAtPathWrong)

/-- 'laws.FnExactPutAt': WHATEVER THE INPUT: true; the input reads as it did. -/
def fnExactPutAtSpec : ChangeSpec := { name := "fnExactPutAt", fn := fun _ => fun
  | [d1, d2, d3] => { results := [.lit (.bool true)], args := [d1, d2, d3] }
  | _ => none }
def fnExactPutAtRow : OpenClaim := { program := "ytnfokfogmniehaa", sum := "455e59a80586a38d2ca1f91c12f3db86e56f005382898162497c9d1a415e8564", func := "loop.example/g00502/laws.FnExactPutAt", spec := "fnExactPutAt", recurses := true, loops := true, apart := false }
def FnExactPutAtSaid : Prop := fnExactPutAtRow.holds Try.pinned (OpenSpec.ofChange fnExactPutAtSpec)

/-- ITS FALSE NEIGHBOUR: 'it returns false'. Refute it at one input. -/
def fnExactPutAtWrong : ChangeSpec := { name := "fnExactPutAt", fn := fun _ => fun
  | [d1, d2, d3] => { results := [.lit (.bool false)], args := [d1, d2, d3] }
  | _ => none }
def FnExactPutAtWrongFalsely : Prop := fnExactPutAtRow.holds Try.pinned (OpenSpec.ofChange fnExactPutAtWrong)

/-- 'laws.FnExactSizeMark': WHATEVER THE INPUT: true; the input reads as it did. -/
def fnExactSizeMarkSpec : ChangeSpec := { name := "fnExactSizeMark", fn := fun _ => fun
  | [d] => { results := [.lit (.bool true)], args := [d] }
  | _ => none }
def fnExactSizeMarkRow : OpenClaim := { program := "ytnfokfogmniehaa", sum := "455e59a80586a38d2ca1f91c12f3db86e56f005382898162497c9d1a415e8564", func := "loop.example/g00502/laws.FnExactSizeMark", spec := "fnExactSizeMark", apart := false }
def FnExactSizeMarkSaid : Prop := fnExactSizeMarkRow.holds Try.pinned (OpenSpec.ofChange fnExactSizeMarkSpec)

/-- ITS FALSE NEIGHBOUR: 'it returns false'. Refute it at one input. -/
def fnExactSizeMarkWrong : ChangeSpec := { name := "fnExactSizeMark", fn := fun _ => fun
  | [d] => { results := [.lit (.bool false)], args := [d] }
  | _ => none }
def FnExactSizeMarkWrongFalsely : Prop := fnExactSizeMarkRow.holds Try.pinned (OpenSpec.ofChange fnExactSizeMarkWrong)

/-- 'laws.FnExactGetMark': WHATEVER THE INPUT: true; the input reads as it did. -/
def fnExactGetMarkSpec : ChangeSpec := { name := "fnExactGetMark", fn := fun _ => fun
  | [d1, d2] => { results := [.lit (.bool true)], args := [d1, d2] }
  | _ => none }
def fnExactGetMarkRow : OpenClaim := { program := "ytnfokfogmniehaa", sum := "455e59a80586a38d2ca1f91c12f3db86e56f005382898162497c9d1a415e8564", func := "loop.example/g00502/laws.FnExactGetMark", spec := "fnExactGetMark", apart := false }
def FnExactGetMarkSaid : Prop := fnExactGetMarkRow.holds Try.pinned (OpenSpec.ofChange fnExactGetMarkSpec)

/-- ITS FALSE NEIGHBOUR: 'it returns false'. Refute it at one input. -/
def fnExactGetMarkWrong : ChangeSpec := { name := "fnExactGetMark", fn := fun _ => fun
  | [d1, d2] => { results := [.lit (.bool false)], args := [d1, d2] }
  | _ => none }
def FnExactGetMarkWrongFalsely : Prop := fnExactGetMarkRow.holds Try.pinned (OpenSpec.ofChange fnExactGetMarkWrong)

/-- 'laws.FnExactPutMark': WHATEVER THE INPUT: true; the input reads as it did. -/
def fnExactPutMarkSpec : ChangeSpec := { name := "fnExactPutMark", fn := fun _ => fun
  | [d1, d2] => { results := [.lit (.bool true)], args := [d1, d2] }
  | _ => none }
def fnExactPutMarkRow : OpenClaim := { program := "ytnfokfogmniehaa", sum := "455e59a80586a38d2ca1f91c12f3db86e56f005382898162497c9d1a415e8564", func := "loop.example/g00502/laws.FnExactPutMark", spec := "fnExactPutMark", apart := false }
def FnExactPutMarkSaid : Prop := fnExactPutMarkRow.holds Try.pinned (OpenSpec.ofChange fnExactPutMarkSpec)

/-- ITS FALSE NEIGHBOUR: 'it returns false'. Refute it at one input. -/
def fnExactPutMarkWrong : ChangeSpec := { name := "fnExactPutMark", fn := fun _ => fun
  | [d1, d2] => { results := [.lit (.bool false)], args := [d1, d2] }
  | _ => none }
def FnExactPutMarkWrongFalsely : Prop := fnExactPutMarkRow.holds Try.pinned (OpenSpec.ofChange fnExactPutMarkWrong)

/-- 'laws.FnExactLessTight': WHATEVER THE INPUT: true; the input reads as it did. -/
def fnExactLessTightSpec : ChangeSpec := { name := "fnExactLessTight", fn := fun _ => fun
  | [d1, d2] => { results := [.lit (.bool true)], args := [d1, d2] }
  | _ => none }
def fnExactLessTightRow : OpenClaim := { program := "ytnfokfogmniehaa", sum := "455e59a80586a38d2ca1f91c12f3db86e56f005382898162497c9d1a415e8564", func := "loop.example/g00502/laws.FnExactLessTight", spec := "fnExactLessTight", inPlace := ["internal/bytealg.Compare"], recurses := true, loops := true, apart := false }
def FnExactLessTightSaid : Prop := fnExactLessTightRow.holds Try.pinned (OpenSpec.ofChange fnExactLessTightSpec)

/-- ITS FALSE NEIGHBOUR: 'it returns false'. Refute it at one input. -/
def fnExactLessTightWrong : ChangeSpec := { name := "fnExactLessTight", fn := fun _ => fun
  | [d1, d2] => { results := [.lit (.bool false)], args := [d1, d2] }
  | _ => none }
def FnExactLessTightWrongFalsely : Prop := fnExactLessTightRow.holds Try.pinned (OpenSpec.ofChange fnExactLessTightWrong)

/-- 'laws.FnExactPackTight': WHATEVER THE INPUT: true; the input reads as it did. -/
def fnExactPackTightSpec : ChangeSpec := { name := "fnExactPackTight", fn := fun _ => fun
  | [d] => { results := [.lit (.bool true)], args := [d] }
  | _ => none }
def fnExactPackTightRow : OpenClaim := { program := "ytnfokfogmniehaa", sum := "455e59a80586a38d2ca1f91c12f3db86e56f005382898162497c9d1a415e8564", func := "loop.example/g00502/laws.FnExactPackTight", spec := "fnExactPackTight", recurses := true, loops := true, apart := false }
def FnExactPackTightSaid : Prop := fnExactPackTightRow.holds Try.pinned (OpenSpec.ofChange fnExactPackTightSpec)

/-- ITS FALSE NEIGHBOUR: 'it returns false'. Refute it at one input. -/
def fnExactPackTightWrong : ChangeSpec := { name := "fnExactPackTight", fn := fun _ => fun
  | [d] => { results := [.lit (.bool false)], args := [d] }
  | _ => none }
def FnExactPackTightWrongFalsely : Prop := fnExactPackTightRow.holds Try.pinned (OpenSpec.ofChange fnExactPackTightWrong)

/-- 'laws.FnExactOpenUp': WHATEVER THE INPUT: true; the input reads as it did. -/
def fnExactOpenUpSpec : ChangeSpec := { name := "fnExactOpenUp", fn := fun _ => fun
  | [d] => { results := [.lit (.bool true)], args := [d] }
  | _ => none }
def fnExactOpenUpRow : OpenClaim := { program := "ytnfokfogmniehaa", sum := "455e59a80586a38d2ca1f91c12f3db86e56f005382898162497c9d1a415e8564", func := "loop.example/g00502/laws.FnExactOpenUp", spec := "fnExactOpenUp", recurses := true, loops := true, apart := false }
def FnExactOpenUpSaid : Prop := fnExactOpenUpRow.holds Try.pinned (OpenSpec.ofChange fnExactOpenUpSpec)

/-- ITS FALSE NEIGHBOUR: 'it returns false'. Refute it at one input. -/
def fnExactOpenUpWrong : ChangeSpec := { name := "fnExactOpenUp", fn := fun _ => fun
  | [d] => { results := [.lit (.bool false)], args := [d] }
  | _ => none }
def FnExactOpenUpWrongFalsely : Prop := fnExactOpenUpRow.holds Try.pinned (OpenSpec.ofChange fnExactOpenUpWrong)

/-- 'laws.FnExactLooseTight': WHATEVER THE INPUT: true; the input reads as it did. -/
def fnExactLooseTightSpec : ChangeSpec := { name := "fnExactLooseTight", fn := fun _ => fun
  | [d] => { results := [.lit (.bool true)], args := [d] }
  | _ => none }
def fnExactLooseTightRow : OpenClaim := { program := "ytnfokfogmniehaa", sum := "455e59a80586a38d2ca1f91c12f3db86e56f005382898162497c9d1a415e8564", func := "loop.example/g00502/laws.FnExactLooseTight", spec := "fnExactLooseTight", recurses := true, loops := true, apart := false }
def FnExactLooseTightSaid : Prop := fnExactLooseTightRow.holds Try.pinned (OpenSpec.ofChange fnExactLooseTightSpec)

/-- ITS FALSE NEIGHBOUR: 'it returns false'. Refute it at one input. -/
def fnExactLooseTightWrong : ChangeSpec := { name := "fnExactLooseTight", fn := fun _ => fun
  | [d] => { results := [.lit (.bool false)], args := [d] }
  | _ => none }
def FnExactLooseTightWrongFalsely : Prop := fnExactLooseTightRow.holds Try.pinned (OpenSpec.ofChange fnExactLooseTightWrong)

/-- 'laws.FnExactSortTight': WHATEVER THE INPUT: true; the input reads as it did. -/
def fnExactSortTightSpec : ChangeSpec := { name := "fnExactSortTight", fn := fun _ => fun
  | [d] => { results := [.lit (.bool true)], args := [d] }
  | _ => none }
def fnExactSortTightRow : OpenClaim := { program := "ytnfokfogmniehaa", sum := "455e59a80586a38d2ca1f91c12f3db86e56f005382898162497c9d1a415e8564", func := "loop.example/g00502/laws.FnExactSortTight", spec := "fnExactSortTight", inPlace := ["internal/bytealg.Compare"], unfollowed := true, recurses := true, loops := true, apart := false }
def FnExactSortTightSaid : Prop := fnExactSortTightRow.holds Try.pinned (OpenSpec.ofChange fnExactSortTightSpec)

/-- ITS FALSE NEIGHBOUR: 'it returns false'. Refute it at one input. -/
def fnExactSortTightWrong : ChangeSpec := { name := "fnExactSortTight", fn := fun _ => fun
  | [d] => { results := [.lit (.bool false)], args := [d] }
  | _ => none }
def FnExactSortTightWrongFalsely : Prop := fnExactSortTightRow.holds Try.pinned (OpenSpec.ofChange fnExactSortTightWrong)

/-- 'laws.FnExactPackPacked': WHATEVER THE INPUT: true; the input reads as it did. -/
def fnExactPackPackedSpec : ChangeSpec := { name := "fnExactPackPacked", fn := fun _ => fun
  | [d] => { results := [.lit (.bool true)], args := [d] }
  | _ => none }
def fnExactPackPackedRow : OpenClaim := { program := "ytnfokfogmniehaa", sum := "455e59a80586a38d2ca1f91c12f3db86e56f005382898162497c9d1a415e8564", func := "loop.example/g00502/laws.FnExactPackPacked", spec := "fnExactPackPacked", recurses := true, loops := true, apart := false }
def FnExactPackPackedSaid : Prop := fnExactPackPackedRow.holds Try.pinned (OpenSpec.ofChange fnExactPackPackedSpec)

/-- ITS FALSE NEIGHBOUR: 'it returns false'. Refute it at one input. -/
def fnExactPackPackedWrong : ChangeSpec := { name := "fnExactPackPacked", fn := fun _ => fun
  | [d] => { results := [.lit (.bool false)], args := [d] }
  | _ => none }
def FnExactPackPackedWrongFalsely : Prop := fnExactPackPackedRow.holds Try.pinned (OpenSpec.ofChange fnExactPackPackedWrong)

/- THE SECOND FORM. 'bulk': how many values and letters a reading holds, each counted each time it is reached (what is shared counts as often as it is met; a slice's spare places count too). A statement '..UptoSaid' is the law's where the arguments, and the package variables that the reading takes, are together of bulk at most 1048576: NARROWER than '..Said'. Prove '..Said' where nothing that the law and all that it calls make is longer than what came in: it says more and counts as full. Else prove '..UptoSaid'. A law counts once. -/
mutual
def uptoBulk {H : Type} : DataW H → Nat
  | .lit (.string bytes) => bytes.length + 1
  | .lit _ => 1
  | .nil => 1
  | .ptr d => uptoBulk d + 1
  | .slice elems spare => uptoBulkAll elems + uptoBulkAll spare + 1
  | .agg parts => uptoBulkAll parts + 1
  | .iface _ d => uptoBulk d + 1
  | .map entries => uptoBulkEntries entries + 1
  | .held _ => 1
def uptoBulkAll {H : Type} : List (DataW H) → Nat
  | [] => 0
  | d :: r => uptoBulk d + uptoBulkAll r
def uptoBulkEntries {H : Type} : List (Lit × DataW H) → Nat
  | [] => 0
  | x :: r => uptoBulkEntry x + uptoBulkEntries r
def uptoBulkEntry {H : Type} : Lit × DataW H → Nat
  | (.string bytes, d) => bytes.length + uptoBulk d + 1
  | (_, d) => uptoBulk d + 1
 end
def uptoSmall : (H : Type) → List (DataW H) → Bool := fun _ ds => decide (uptoBulkAll ds ≤ 1048576)
def OpenSpec.upto (s : _root_.Go.ChangeSpec) : _root_.Go.OpenSpec := { _root_.Go.OpenSpec.ofChange s with cond := some uptoSmall }

/-- 'laws.FnExactPutHead', WHERE WHAT IT READS IS OF BULK AT MOST 1048576: true; the input reads as it did. -/
def fnExactPutHeadUptoRow : OpenClaim := { program := "ytnfokfogmniehaa", sum := "455e59a80586a38d2ca1f91c12f3db86e56f005382898162497c9d1a415e8564", func := "loop.example/g00502/laws.FnExactPutHead", spec := "fnExactPutHead", apart := false, narrowed := true }
def FnExactPutHeadUptoSaid : Prop := fnExactPutHeadUptoRow.holds Try.pinned (OpenSpec.upto fnExactPutHeadSpec)

/-- 'laws.FnExactGetHead', WHERE WHAT IT READS IS OF BULK AT MOST 1048576: true; the input reads as it did. -/
def fnExactGetHeadUptoRow : OpenClaim := { program := "ytnfokfogmniehaa", sum := "455e59a80586a38d2ca1f91c12f3db86e56f005382898162497c9d1a415e8564", func := "loop.example/g00502/laws.FnExactGetHead", spec := "fnExactGetHead", apart := false, narrowed := true }
def FnExactGetHeadUptoSaid : Prop := fnExactGetHeadUptoRow.holds Try.pinned (OpenSpec.upto fnExactGetHeadSpec)

/-- 'laws.FnExactHeadsIn', WHERE WHAT IT READS IS OF BULK AT MOST 1048576: true; the input reads as it did. -/
def fnExactHeadsInUptoRow : OpenClaim := { program := "ytnfokfogmniehaa", sum := "455e59a80586a38d2ca1f91c12f3db86e56f005382898162497c9d1a415e8564", func := "loop.example/g00502/laws.FnExactHeadsIn", spec := "fnExactHeadsIn", apart := false, narrowed := true }
def FnExactHeadsInUptoSaid : Prop := fnExactHeadsInUptoRow.holds Try.pinned (OpenSpec.upto fnExactHeadsInSpec)

/-- 'laws.FnExactAllPaths', WHERE WHAT IT READS IS OF BULK AT MOST 1048576: true; the input reads as it did. -/
def fnExactAllPathsUptoRow : OpenClaim := { program := "ytnfokfogmniehaa", sum := "455e59a80586a38d2ca1f91c12f3db86e56f005382898162497c9d1a415e8564", func := "loop.example/g00502/laws.FnExactAllPaths", spec := "fnExactAllPaths", recurses := true, loops := true, apart := false, narrowed := true }
def FnExactAllPathsUptoSaid : Prop := fnExactAllPathsUptoRow.holds Try.pinned (OpenSpec.upto fnExactAllPathsSpec)

/-- 'laws.FnExactAtPath', WHERE WHAT IT READS IS OF BULK AT MOST 1048576: true; the input reads as it did. -/
def fnExactAtPathUptoRow : OpenClaim := { program := "ytnfokfogmniehaa", sum := "455e59a80586a38d2ca1f91c12f3db86e56f005382898162497c9d1a415e8564", func := "loop.example/g00502/laws.FnExactAtPath", spec := "fnExactAtPath", recurses := true, loops := true, apart := false, narrowed := true }
def FnExactAtPathUptoSaid : Prop := fnExactAtPathUptoRow.holds Try.pinned (OpenSpec.upto fnExactAtPathSpec)

/-- 'laws.FnExactPutAt', WHERE WHAT IT READS IS OF BULK AT MOST 1048576: true; the input reads as it did. -/
def fnExactPutAtUptoRow : OpenClaim := { program := "ytnfokfogmniehaa", sum := "455e59a80586a38d2ca1f91c12f3db86e56f005382898162497c9d1a415e8564", func := "loop.example/g00502/laws.FnExactPutAt", spec := "fnExactPutAt", recurses := true, loops := true, apart := false, narrowed := true }
def FnExactPutAtUptoSaid : Prop := fnExactPutAtUptoRow.holds Try.pinned (OpenSpec.upto fnExactPutAtSpec)

/-- 'laws.FnExactSizeMark', WHERE WHAT IT READS IS OF BULK AT MOST 1048576: true; the input reads as it did. -/
def fnExactSizeMarkUptoRow : OpenClaim := { program := "ytnfokfogmniehaa", sum := "455e59a80586a38d2ca1f91c12f3db86e56f005382898162497c9d1a415e8564", func := "loop.example/g00502/laws.FnExactSizeMark", spec := "fnExactSizeMark", apart := false, narrowed := true }
def FnExactSizeMarkUptoSaid : Prop := fnExactSizeMarkUptoRow.holds Try.pinned (OpenSpec.upto fnExactSizeMarkSpec)

/-- 'laws.FnExactGetMark', WHERE WHAT IT READS IS OF BULK AT MOST 1048576: true; the input reads as it did. -/
def fnExactGetMarkUptoRow : OpenClaim := { program := "ytnfokfogmniehaa", sum := "455e59a80586a38d2ca1f91c12f3db86e56f005382898162497c9d1a415e8564", func := "loop.example/g00502/laws.FnExactGetMark", spec := "fnExactGetMark", apart := false, narrowed := true }
def FnExactGetMarkUptoSaid : Prop := fnExactGetMarkUptoRow.holds Try.pinned (OpenSpec.upto fnExactGetMarkSpec)

/-- 'laws.FnExactPutMark', WHERE WHAT IT READS IS OF BULK AT MOST 1048576: true; the input reads as it did. -/
def fnExactPutMarkUptoRow : OpenClaim := { program := "ytnfokfogmniehaa", sum := "455e59a80586a38d2ca1f91c12f3db86e56f005382898162497c9d1a415e8564", func := "loop.example/g00502/laws.FnExactPutMark", spec := "fnExactPutMark", apart := false, narrowed := true }
def FnExactPutMarkUptoSaid : Prop := fnExactPutMarkUptoRow.holds Try.pinned (OpenSpec.upto fnExactPutMarkSpec)

/-- 'laws.FnExactLessTight', WHERE WHAT IT READS IS OF BULK AT MOST 1048576: true; the input reads as it did. -/
def fnExactLessTightUptoRow : OpenClaim := { program := "ytnfokfogmniehaa", sum := "455e59a80586a38d2ca1f91c12f3db86e56f005382898162497c9d1a415e8564", func := "loop.example/g00502/laws.FnExactLessTight", spec := "fnExactLessTight", inPlace := ["internal/bytealg.Compare"], recurses := true, loops := true, apart := false, narrowed := true }
def FnExactLessTightUptoSaid : Prop := fnExactLessTightUptoRow.holds Try.pinned (OpenSpec.upto fnExactLessTightSpec)

/-- 'laws.FnExactPackTight', WHERE WHAT IT READS IS OF BULK AT MOST 1048576: true; the input reads as it did. -/
def fnExactPackTightUptoRow : OpenClaim := { program := "ytnfokfogmniehaa", sum := "455e59a80586a38d2ca1f91c12f3db86e56f005382898162497c9d1a415e8564", func := "loop.example/g00502/laws.FnExactPackTight", spec := "fnExactPackTight", recurses := true, loops := true, apart := false, narrowed := true }
def FnExactPackTightUptoSaid : Prop := fnExactPackTightUptoRow.holds Try.pinned (OpenSpec.upto fnExactPackTightSpec)

/-- 'laws.FnExactOpenUp', WHERE WHAT IT READS IS OF BULK AT MOST 1048576: true; the input reads as it did. -/
def fnExactOpenUpUptoRow : OpenClaim := { program := "ytnfokfogmniehaa", sum := "455e59a80586a38d2ca1f91c12f3db86e56f005382898162497c9d1a415e8564", func := "loop.example/g00502/laws.FnExactOpenUp", spec := "fnExactOpenUp", recurses := true, loops := true, apart := false, narrowed := true }
def FnExactOpenUpUptoSaid : Prop := fnExactOpenUpUptoRow.holds Try.pinned (OpenSpec.upto fnExactOpenUpSpec)

/-- 'laws.FnExactLooseTight', WHERE WHAT IT READS IS OF BULK AT MOST 1048576: true; the input reads as it did. -/
def fnExactLooseTightUptoRow : OpenClaim := { program := "ytnfokfogmniehaa", sum := "455e59a80586a38d2ca1f91c12f3db86e56f005382898162497c9d1a415e8564", func := "loop.example/g00502/laws.FnExactLooseTight", spec := "fnExactLooseTight", recurses := true, loops := true, apart := false, narrowed := true }
def FnExactLooseTightUptoSaid : Prop := fnExactLooseTightUptoRow.holds Try.pinned (OpenSpec.upto fnExactLooseTightSpec)

/-- 'laws.FnExactSortTight', WHERE WHAT IT READS IS OF BULK AT MOST 1048576: true; the input reads as it did. -/
def fnExactSortTightUptoRow : OpenClaim := { program := "ytnfokfogmniehaa", sum := "455e59a80586a38d2ca1f91c12f3db86e56f005382898162497c9d1a415e8564", func := "loop.example/g00502/laws.FnExactSortTight", spec := "fnExactSortTight", inPlace := ["internal/bytealg.Compare"], unfollowed := true, recurses := true, loops := true, apart := false, narrowed := true }
def FnExactSortTightUptoSaid : Prop := fnExactSortTightUptoRow.holds Try.pinned (OpenSpec.upto fnExactSortTightSpec)

/-- 'laws.FnExactPackPacked', WHERE WHAT IT READS IS OF BULK AT MOST 1048576: true; the input reads as it did. -/
def fnExactPackPackedUptoRow : OpenClaim := { program := "ytnfokfogmniehaa", sum := "455e59a80586a38d2ca1f91c12f3db86e56f005382898162497c9d1a415e8564", func := "loop.example/g00502/laws.FnExactPackPacked", spec := "fnExactPackPacked", recurses := true, loops := true, apart := false, narrowed := true }
def FnExactPackPackedUptoSaid : Prop := fnExactPackPackedUptoRow.holds Try.pinned (OpenSpec.upto fnExactPackPackedSpec)

end Rows
end Go.Proofs.Ytnfokfogmniehaa
