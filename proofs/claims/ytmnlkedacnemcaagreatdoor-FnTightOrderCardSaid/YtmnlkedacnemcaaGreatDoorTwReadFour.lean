/- ReadFour: impl and spec, and the law. -/
import Derived.Test.YtmnlkedacnemcaaGreatDoorTwM28
import Derived.Test.YtmnlkedacnemcaaGreatDoorTwTextOk
import Derived.Test.YtmnlkedacnemcaaGreatDoorTwM24
import Derived.Lib.SmallJoins
import Derived.Shelf.Unicode.DecodeSlow
set_option linter.unusedVariables false
set_option maxRecDepth 100000
set_option linter.unusedSimpArgs false
namespace Go.Proofs.YtmnlkedacnemcaaGreatDoor
open Go.RowKit

theorem ret2ib {a b : Int} {c d : Bool} (h : (a, c) = (b, d)) : Ending.returned (.tuple #[.int .i64 a, .bool c]) = .returned (.tuple #[.int .i64 b, .bool d]) := by
  injection h with h1 h2; rw [h1, h2]
def ret2 (r : Int × Bool) : Ending := .returned (.tuple #[.int .i64 r.1, .bool r.2])
theorem numG_nil (f : UInt8 → Int) (a : Int) : numG f [] a = (a, true) := rfl
theorem numG_bad {f : UInt8 → Int} {b : UInt8} {l : List UInt8} {a : Int} (h : f b < 0) : numG f (b :: l) a = (0, false) := by simp [numG, h]
theorem numG_good {f : UInt8 → Int} {b : UInt8} {l : List UInt8} {a : Int} (h : 0 ≤ f b) : numG f (b :: l) a = numG f l (16 * a + f b) := by
  have : ¬ f b < 0 := by omega
  simp [numG, this]
end Go.Proofs.YtmnlkedacnemcaaGreatDoor
