/- task.Clock, task.DemandMay. -/
import Derived.Test.YtkjjfidbmkpljaaData
import Derived.Test.YtkjjfidbmkpljaaProg
set_option linter.unusedVariables false
set_option linter.unusedSimpArgs false
namespace Go.Proofs.Ytkjjfidbmkpljaa
open Go.RowKit

end Go.Proofs.Ytkjjfidbmkpljaa
