/- The laws' own helpers on []byte: copies, comparison. -/
import Derived.Test.YtjjcdlghichmdaaMem
import Derived.Test.YtjjcdlghichmdaaNum
import Derived.BigQuiet
import Derived.Deep.QuietTactic
set_option linter.unusedVariables false
set_option maxRecDepth 100000
set_option linter.unusedSimpArgs false
namespace Go.Proofs.Ytjjcdlghichmdaa
open Go.RowKit

theorem info_u8 : (Try.prog.info? 5).map (fun i => (i.zero, i.size, i.bytes)) = some (some (.int .u8 0), 1, 1) := by kernel_rfl

end Go.Proofs.Ytjjcdlghichmdaa
