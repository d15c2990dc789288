/-
  No cell of these rows narrows 'for every input' (looked for: loops, veiled, ifaces, maps, wideKeys, modest, calm, conditions, laid).
  DERIVED. THE GIVEN ROWS OF THIS SEAT. 3 by the template 'for every input the law returns true; each argument reads behind the call as it read before'; 0 by the template 'total and deterministic' (their statements: YtjhhncahlijohaaTotals.lean).
  GIVEN WITH THE SEED: the statements are not yours to turn. If you find one false, say at which input.
  Laid BY PROGRAM, IN A SANDBOX (cutbox-rows.mjs): the forced cells as the released guide's own fill.sh prints them over the translation 53500bf68ad4847f… (all of the seat's roots in one cut). By AI agents, Wed Nov 11 2026. No macro, syntax, notation, axiom, sorry.
-/
import Derived.Test.YtjhhncahlijohaaChecked
import GoSem.Claim
import GoSem.ClaimJoined
import GoSem.ClaimMapViews
import Derived.JoinedTies
import Derived.KernelRfl
namespace Go.Proofs.Ytjhhncahlijohaa
/- THE CELL 'sum', in the pinned program and in every row, IS THE sha256 OF THE DUMP (.gsa) THAT YtjhhncahlijohaaProg.lean LOADS. Nothing in Lean hashes anything: it is a label: what it is worth is what the hold of that sum in a sandbox is worth. -/
noncomputable def Try.pinned : Pinned := { name := "ytjhhncahlijohaa", sum := "53500bf68ad4847f4f63b7039e69c3e7e3412882bea16339ede69c3e4a7e56e9", checked := Try.checked }
namespace Rows
def none {H : Type} : Left H := { results := [], args := [] }

/-- 'nocturnlaw23.ViewFilters': WHATEVER THE INPUT: true; the input reads as it did. -/
def viewFiltersSpec : ChangeSpec := { name := "viewFilters", fn := fun _ => fun
  | [d1, d2] => { results := [.lit (.bool true)], args := [d1, d2] }
  | _ => none }
def viewFiltersRow : OpenClaim := { program := "ytjhhncahlijohaa", sum := "53500bf68ad4847f4f63b7039e69c3e7e3412882bea16339ede69c3e4a7e56e9", func := "nocturn/nocturnlaw23.ViewFilters", spec := "viewFilters", unfollowed := true, recurses := true, apart := false }
def ViewFiltersSaid : Prop := viewFiltersRow.holds Try.pinned (OpenSpec.ofChange viewFiltersSpec)

/-- ITS FALSE NEIGHBOUR: 'it returns false'. Refute it at one input. -/
def viewFiltersWrong : ChangeSpec := { name := "viewFilters", fn := fun _ => fun
  | [d1, d2] => { results := [.lit (.bool false)], args := [d1, d2] }
  | _ => none }
def ViewFiltersWrongFalsely : Prop := viewFiltersRow.holds Try.pinned (OpenSpec.ofChange viewFiltersWrong)

/-- 'nocturnlaw23.ViewAlike': WHATEVER THE INPUT: true; the input reads as it did. -/
def viewAlikeSpec : ChangeSpec := { name := "viewAlike", fn := fun _ => fun
  | [d1, d2] => { results := [.lit (.bool true)], args := [d1, d2] }
  | _ => none }
def viewAlikeRow : OpenClaim := { program := "ytjhhncahlijohaa", sum := "53500bf68ad4847f4f63b7039e69c3e7e3412882bea16339ede69c3e4a7e56e9", func := "nocturn/nocturnlaw23.ViewAlike", spec := "viewAlike", unfollowed := true, recurses := true, apart := false }
def ViewAlikeSaid : Prop := viewAlikeRow.holds Try.pinned (OpenSpec.ofChange viewAlikeSpec)

/-- ITS FALSE NEIGHBOUR: 'it returns false'. Refute it at one input. -/
def viewAlikeWrong : ChangeSpec := { name := "viewAlike", fn := fun _ => fun
  | [d1, d2] => { results := [.lit (.bool false)], args := [d1, d2] }
  | _ => none }
def ViewAlikeWrongFalsely : Prop := viewAlikeRow.holds Try.pinned (OpenSpec.ofChange viewAlikeWrong)

/-- 'nocturnlaw23.ViewRows': WHATEVER THE INPUT: true; the input reads as it did. -/
def viewRowsSpec : ChangeSpec := { name := "viewRows", fn := fun _ => fun
  | [d1, d2, d3] => { results := [.lit (.bool true)], args := [d1, d2, d3] }
  | _ => none }
def viewRowsRow : OpenClaim := { program := "ytjhhncahlijohaa", sum := "53500bf68ad4847f4f63b7039e69c3e7e3412882bea16339ede69c3e4a7e56e9", func := "nocturn/nocturnlaw23.ViewRows", spec := "viewRows", unfollowed := true, recurses := true, apart := false }
def ViewRowsSaid : Prop := viewRowsRow.holds Try.pinned (OpenSpec.ofChange viewRowsSpec)

/-- ITS FALSE NEIGHBOUR: 'it returns false'. Refute it at one input. -/
def viewRowsWrong : ChangeSpec := { name := "viewRows", fn := fun _ => fun
  | [d1, d2, d3] => { results := [.lit (.bool false)], args := [d1, d2, d3] }
  | _ => none }
def ViewRowsWrongFalsely : Prop := viewRowsRow.holds Try.pinned (OpenSpec.ofChange viewRowsWrong)

/- THE SECOND FORM. 'bulk': how many values and letters a reading holds, each counted each time it is reached (what is shared counts as often as it is met; a slice's spare places count too). A statement '..UptoSaid' is the law's where the arguments, and the package variables that the reading takes, are together of bulk at most 1048576: NARROWER than '..Said'. Prove '..Said' where nothing that the law and all that it calls make is longer than what came in: it says more and counts as full. Else prove '..UptoSaid'. A law counts once. -/
mutual
def uptoBulk {H : Type} : DataW H → Nat
  | .lit (.string bytes) => bytes.length + 1
  | .lit _ => 1
  | .nil => 1
  | .ptr d => uptoBulk d + 1
  | .slice elems spare => uptoBulkAll elems + uptoBulkAll spare + 1
  | .agg parts => uptoBulkAll parts + 1
  | .iface _ d => uptoBulk d + 1
  | .map entries => uptoBulkEntries entries + 1
  | .held _ => 1
def uptoBulkAll {H : Type} : List (DataW H) → Nat
  | [] => 0
  | d :: r => uptoBulk d + uptoBulkAll r
def uptoBulkEntries {H : Type} : List (Lit × DataW H) → Nat
  | [] => 0
  | x :: r => uptoBulkEntry x + uptoBulkEntries r
def uptoBulkEntry {H : Type} : Lit × DataW H → Nat
  | (.string bytes, d) => bytes.length + uptoBulk d + 1
  | (_, d) => uptoBulk d + 1
 end
def uptoSmall : (H : Type) → List (DataW H) → Bool := fun _ ds => decide (uptoBulkAll ds ≤ 1048576)
def OpenSpec.upto (s : _root_.Go.ChangeSpec) : _root_.Go.OpenSpec := { _root_.Go.OpenSpec.ofChange s with cond := some uptoSmall }

/-- 'nocturnlaw23.ViewFilters', WHERE WHAT IT READS IS OF BULK AT MOST 1048576: true; the input reads as it did. -/
def viewFiltersUptoRow : OpenClaim := { program := "ytjhhncahlijohaa", sum := "53500bf68ad4847f4f63b7039e69c3e7e3412882bea16339ede69c3e4a7e56e9", func := "nocturn/nocturnlaw23.ViewFilters", spec := "viewFilters", unfollowed := true, recurses := true, apart := false, narrowed := true }
def ViewFiltersUptoSaid : Prop := viewFiltersUptoRow.holds Try.pinned (OpenSpec.upto viewFiltersSpec)

/-- 'nocturnlaw23.ViewAlike', WHERE WHAT IT READS IS OF BULK AT MOST 1048576: true; the input reads as it did. -/
def viewAlikeUptoRow : OpenClaim := { program := "ytjhhncahlijohaa", sum := "53500bf68ad4847f4f63b7039e69c3e7e3412882bea16339ede69c3e4a7e56e9", func := "nocturn/nocturnlaw23.ViewAlike", spec := "viewAlike", unfollowed := true, recurses := true, apart := false, narrowed := true }
def ViewAlikeUptoSaid : Prop := viewAlikeUptoRow.holds Try.pinned (OpenSpec.upto viewAlikeSpec)

/-- 'nocturnlaw23.ViewRows', WHERE WHAT IT READS IS OF BULK AT MOST 1048576: true; the input reads as it did. -/
def viewRowsUptoRow : OpenClaim := { program := "ytjhhncahlijohaa", sum := "53500bf68ad4847f4f63b7039e69c3e7e3412882bea16339ede69c3e4a7e56e9", func := "nocturn/nocturnlaw23.ViewRows", spec := "viewRows", unfollowed := true, recurses := true, apart := false, narrowed := true }
def ViewRowsUptoSaid : Prop := viewRowsUptoRow.holds Try.pinned (OpenSpec.upto viewRowsSpec)

end Rows
end Go.Proofs.Ytjhhncahlijohaa
