/- An argument that reads as data is a configuration. -/
import Derived.Test.YtooeeiiiflfckaaGreatOpenG
set_option linter.unusedVariables false
set_option linter.unusedSimpArgs false
namespace Go.Proofs.YtooeeiiiflfckaaGreat
open Go.ChangeShapes Go.WideShapes Go.ChangeAt Go.RowKit
section
variable {H:Type} {enc:TypeId × Value->H} {W:World} {sp:Nat->Bool}
end
end Go.Proofs.YtooeeiiiflfckaaGreat
