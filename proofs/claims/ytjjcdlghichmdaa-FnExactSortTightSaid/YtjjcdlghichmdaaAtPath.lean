/- Paths: the element that a step leads to; AtPath. -/
import Derived.Test.YtjjcdlghichmdaaCopy
import Derived.Test.YtjjcdlghichmdaaSteps
set_option linter.unusedVariables false
set_option maxRecDepth 100000
set_option linter.unusedSimpArgs false
namespace Go.Proofs.Ytjjcdlghichmdaa
open Go.RowKit

/-- Where the element is that a step leads to, or -1. -/
def place (k : Int) (n : Nat) (a : Int) (b : Bool) : Int :=
  if k = 10 then (if b = true then (if 0 ≤ a ∧ 2 * a < n then 2 * a else -1) else (if 0 ≤ a ∧ 2 * a + 1 < n then 2 * a + 1 else -1))
  else if b = false ∧ 0 ≤ a ∧ a < n then a else -1
theorem place_lt (k : Int) (n : Nat) (a : Int) (b : Bool) : place k n a b = -1 ∨ (0 ≤ place k n a b ∧ place k n a b < n) := by
  unfold place; (repeat' split) <;> omega
end Go.Proofs.Ytjjcdlghichmdaa
