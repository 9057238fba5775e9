/- JoinTokens: impl and spec. -/
import Derived.Test.YticejlknbfhndaaDoorToks
import Derived.Test.YticejlknbfhndaaDoorShelf
set_option linter.unusedVariables false
set_option maxRecDepth 100000
set_option linter.unusedSimpArgs false
namespace Go.Proofs.YticejlknbfhndaaDoor
open Go.RowKit

end Go.Proofs.YticejlknbfhndaaDoor
