/- The laws' markText. -/
import Derived.Test.YtmelnaidjgpclaaGreatDoorBs
import Derived.Deep.LoopGhost
set_option linter.unusedVariables false
set_option maxRecDepth 100000
set_option linter.unusedSimpArgs false
namespace Go.Proofs.YtmelnaidjgpclaaGreatDoor
open Go.RowKit

def dec10 : Nat → Nat → List UInt8 → List UInt8
  | 0, _, acc => acc
  | f + 1, k, acc => if k = 0 then acc else dec10 f (k / 10) (UInt8.ofNat (48 + k % 10) :: acc)
/-- The mark that a text bears. -/
def mkT (k : Nat) : ByteArray := ⟨(109 :: dec10 20 k []).toArray⟩
theorem ba_cons (c : UInt8) (l : List UInt8) : (⟨#[c]⟩ : ByteArray) ++ ⟨l.toArray⟩ = ⟨(c :: l).toArray⟩ := by
  apply ByteArray.ext
  simp [ByteArray.data_append]
end Go.Proofs.YtmelnaidjgpclaaGreatDoor
