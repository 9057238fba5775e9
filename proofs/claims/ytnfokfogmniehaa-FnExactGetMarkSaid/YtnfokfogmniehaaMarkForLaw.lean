/- The law on MarkFor. -/
import Derived.Test.YtnfokfogmniehaaMarkFor
set_option linter.unusedVariables false
set_option maxRecDepth 100000
set_option linter.unusedSimpArgs false
namespace Go.Proofs.Ytnfokfogmniehaa
open Go.RowKit
theorem l_eqMark (a b : Int) (w : World) :
    Calls Try.prog 53 #[.agg #[.int .i64 a, .int .i64 b], .agg #[.int .i64 a, .int .i64 b]] w fun e w' => e = .returned (.bool true) ∧ Below w.heap.size w w' := by
  go_enter Try.func53, Try.ntmps53
  go_wp2_with fail
  go_ret
  exact ⟨rfl, Below.two _ _ _⟩
end Go.Proofs.Ytnfokfogmniehaa
