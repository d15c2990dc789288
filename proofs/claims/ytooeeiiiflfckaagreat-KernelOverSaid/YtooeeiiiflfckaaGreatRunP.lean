/- Kernels that run, plainly. -/
import Derived.Test.YtooeeiiiflfckaaGreatKbX
import Derived.Test.YtooeeiiiflfckaaGreatAdmA
set_option linter.unusedVariables false
set_option linter.unusedSimpArgs false
namespace Go.Proofs.YtooeeiiiflfckaaGreat
open Go.RowKit
def runK (K : KSt) (es : Nat -> List Entry) : Nat -> KSt
 | 0 => K
 | n + 1 => (tickK (runK K es n) (es n)).1
def rowK (K : KSt) (es : Nat -> List Entry) (n : Nat) : KRow := (tickK (runK K es n) (es n)).2
def kindsOf (r : KRow) (a b : Int) : Nat := (r.events.filter (fun e => decide (e.kind = a ∨ e.kind = b))).length
theorem all_range {n : Nat} {p : Nat -> Bool} (h : (List.range n).all p = true) {i : Nat} (hi : i < n) : p i = true := List.all_eq_true.1 h i (List.mem_range.2 hi)
end Go.Proofs.YtooeeiiiflfckaaGreat
