/- Tokens as the laws have them; the law FnExactTokenText. -/
import Derived.Test.YtgddnpglgakkdaaGreatDoorTokText
import Derived.Test.YtgddnpglgakkdaaGreatDoorOpen
set_option linter.unusedVariables false
set_option maxRecDepth 100000
set_option linter.unusedSimpArgs false
namespace Go.Proofs.YtgddnpglgakkdaaGreatDoor
open Go.ChangeShapes Go.WideShapes Go.ChangeAt Go.RowKit

end Go.Proofs.YtgddnpglgakkdaaGreatDoor
