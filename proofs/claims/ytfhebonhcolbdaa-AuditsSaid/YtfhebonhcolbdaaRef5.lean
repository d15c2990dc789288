/- What the reference answers of frames and supply. -/
import Derived.Test.YtfhebonhcolbdaaRef4
import Derived.Test.YtfhebonhcolbdaaFrm1
import Derived.Test.YtfhebonhcolbdaaRow
import Derived.IntWalk
set_option linter.unusedVariables false
set_option linter.unusedSimpArgs false
namespace Go.Proofs.Ytfhebonhcolbdaa
open Go.RowKit

end Go.Proofs.Ytfhebonhcolbdaa
