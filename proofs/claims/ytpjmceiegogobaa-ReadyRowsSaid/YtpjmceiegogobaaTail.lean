/- A region that draws its order and ends in one forced step: the reads ahead of it walked once. -/
import Derived.Test.YtpjmceiegogobaaBase
import Derived.StillTailTactics
set_option linter.unusedVariables false
set_option linter.unusedSimpArgs false
namespace Go.Proofs.Ytpjmceiegogobaa
open Go.RowKit

theorem drewN_heap (w : World) (n : Nat) : (w.drewN n).heap = w.heap := rfl
theorem region_tail {P : Program} {id : Nat} {Q : Exit → Act → World → Prop} {a : Act} {w : World} {l : List Oper} (n : Nat) (hm : P.follows .mixedOrders = true) (hB : Region.lexTailB .any l.toArray n = true)
    (h : ∀ wy : World, wy.heap = w.heap → Below w.heap.size w wy → wpStill P l.toArray wy (fun a' => wpList P l.toArray Q (l.drop n) a' wy) (l.take n) a) : (Code.region id l.toArray true).wp P Q a w :=
  wp_region_still_tail n hm hB (h w.drew rfl (below_drew (Below.refl _ _)))
end Go.Proofs.Ytpjmceiegogobaa
