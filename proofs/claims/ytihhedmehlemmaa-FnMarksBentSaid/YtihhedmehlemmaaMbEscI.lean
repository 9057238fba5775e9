/- readEscape (impl). -/
import Derived.Test.YtihhedmehlemmaaMbEsc
set_option linter.unusedVariables false
set_option maxRecDepth 100000
set_option linter.unusedSimpArgs false
namespace Go.Proofs.Ytihhedmehlemmaa
open Go.RowKit

theorem retII_eq {a b c d : Int} (h1 : a = c) (h2 : b = d) : Ending.returned (.tuple #[.int .i64 a, .int .i64 b]) = retII (c, d) := by rw [h1, h2]; rfl
end Go.Proofs.Ytihhedmehlemmaa
