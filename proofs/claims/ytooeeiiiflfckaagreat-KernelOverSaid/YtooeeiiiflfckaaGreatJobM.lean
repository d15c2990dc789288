/- The reference's JobsMay (printed by genjm.py). -/
import Derived.Test.YtooeeiiiflfckaaGreatJobE
import Derived.Test.YtooeeiiiflfckaaGreatLibA
set_option linter.unusedVariables false
set_option linter.unusedSimpArgs false
namespace Go.Proofs.YtooeeiiiflfckaaGreat
open Go.RowKit
end Go.Proofs.YtooeeiiiflfckaaGreat
