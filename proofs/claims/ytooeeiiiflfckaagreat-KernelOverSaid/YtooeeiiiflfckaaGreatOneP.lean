/- A lone high part with one task that is picked, a low one with a job each tick (plainly). -/
import Derived.Test.YtooeeiiiflfckaaGreatRunP
set_option linter.unusedVariables false
set_option linter.unusedSimpArgs false
namespace Go.Proofs.YtooeeiiiflfckaaGreat
open Go.RowKit
def oneCfg (f q lo hi per dl : Int) : Config := ⟨f, q, [⟨1, [⟨1, per, dl, lo, hi, 0⟩], []⟩, ⟨0, [⟨0, 1, 1, 1, 1, 0⟩], []⟩], [⟨0, f - 1, 0⟩, ⟨f - 1, f, 1⟩], []⟩
end Go.Proofs.YtooeeiiiflfckaaGreat
