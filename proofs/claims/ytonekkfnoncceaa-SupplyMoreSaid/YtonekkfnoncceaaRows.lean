/-
  No cell of these rows narrows 'for every input' (looked for: loops, veiled, ifaces, maps, wideKeys, modest, calm, conditions, laid).
  DERIVED. THE GIVEN ROWS OF THIS SEAT. 6 by the template 'for every input the law returns true; each argument reads behind the call as it read before'; 0 by the template 'total and deterministic' (their statements: YtonekkfnoncceaaTotals.lean).
  GIVEN WITH THE SEED: the statements are not yours to turn. If you find one false, say at which input.
  Laid BY PROGRAM, IN A SANDBOX (cutbox-rows.mjs): the forced cells as the released guide's own fill.sh prints them over the translation 04918d1cd95fb750… (all of the seat's roots in one cut). By AI agents, Wed Nov 11 2026. No macro, syntax, notation, axiom, sorry.
-/
import Derived.Test.YtonekkfnoncceaaChecked
import GoSem.Claim
import GoSem.ClaimJoined
import GoSem.ClaimMapViews
import Derived.JoinedTies
import Derived.KernelRfl
namespace Go.Proofs.Ytonekkfnoncceaa
/- THE CELL 'sum', in the pinned program and in every row, IS THE sha256 OF THE DUMP (.gsa) THAT YtonekkfnoncceaaProg.lean LOADS. Nothing in Lean hashes anything: it is a label: what it is worth is what the hold of that sum in a sandbox is worth. -/
noncomputable def Try.pinned : Pinned := { name := "ytonekkfnoncceaa", sum := "04918d1cd95fb750dd6b8f0954fd1e4ed073a71dad391b0691a34d8a3fffcf2a", checked := Try.checked }
namespace Rows
def none {H : Type} : Left H := { results := [], args := [] }

/-- 'nocturnlaw7.Supplies': WHATEVER THE INPUT: true; the input reads as it did. -/
def suppliesSpec : ChangeSpec := { name := "supplies", fn := fun _ => fun
  | [d1, d2, d3] => { results := [.lit (.bool true)], args := [d1, d2, d3] }
  | _ => none }
def suppliesRow : OpenClaim := { program := "ytonekkfnoncceaa", sum := "04918d1cd95fb750dd6b8f0954fd1e4ed073a71dad391b0691a34d8a3fffcf2a", func := "nocturn/nocturnlaw7.Supplies", spec := "supplies", unfollowed := true, recurses := true, apart := false }
def SuppliesSaid : Prop := suppliesRow.holds Try.pinned (OpenSpec.ofChange suppliesSpec)

/-- ITS FALSE NEIGHBOUR: 'it returns false'. Refute it at one input. -/
def suppliesWrong : ChangeSpec := { name := "supplies", fn := fun _ => fun
  | [d1, d2, d3] => { results := [.lit (.bool false)], args := [d1, d2, d3] }
  | _ => none }
def SuppliesWrongFalsely : Prop := suppliesRow.holds Try.pinned (OpenSpec.ofChange suppliesWrong)

/-- 'nocturnlaw7.SupplyWhole': WHATEVER THE INPUT: true; the input reads as it did. -/
def supplyWholeSpec : ChangeSpec := { name := "supplyWhole", fn := fun _ => fun
  | [d1, d2, d3, d4] => { results := [.lit (.bool true)], args := [d1, d2, d3, d4] }
  | _ => none }
def supplyWholeRow : OpenClaim := { program := "ytonekkfnoncceaa", sum := "04918d1cd95fb750dd6b8f0954fd1e4ed073a71dad391b0691a34d8a3fffcf2a", func := "nocturn/nocturnlaw7.SupplyWhole", spec := "supplyWhole", unfollowed := true, recurses := true, apart := false }
def SupplyWholeSaid : Prop := supplyWholeRow.holds Try.pinned (OpenSpec.ofChange supplyWholeSpec)

/-- ITS FALSE NEIGHBOUR: 'it returns false'. Refute it at one input. -/
def supplyWholeWrong : ChangeSpec := { name := "supplyWhole", fn := fun _ => fun
  | [d1, d2, d3, d4] => { results := [.lit (.bool false)], args := [d1, d2, d3, d4] }
  | _ => none }
def SupplyWholeWrongFalsely : Prop := supplyWholeRow.holds Try.pinned (OpenSpec.ofChange supplyWholeWrong)

/-- 'nocturnlaw7.SupplyForms': WHATEVER THE INPUT: true; the input reads as it did. -/
def supplyFormsSpec : ChangeSpec := { name := "supplyForms", fn := fun _ => fun
  | [d1, d2] => { results := [.lit (.bool true)], args := [d1, d2] }
  | _ => none }
def supplyFormsRow : OpenClaim := { program := "ytonekkfnoncceaa", sum := "04918d1cd95fb750dd6b8f0954fd1e4ed073a71dad391b0691a34d8a3fffcf2a", func := "nocturn/nocturnlaw7.SupplyForms", spec := "supplyForms", unfollowed := true, recurses := true, apart := false }
def SupplyFormsSaid : Prop := supplyFormsRow.holds Try.pinned (OpenSpec.ofChange supplyFormsSpec)

/-- ITS FALSE NEIGHBOUR: 'it returns false'. Refute it at one input. -/
def supplyFormsWrong : ChangeSpec := { name := "supplyForms", fn := fun _ => fun
  | [d1, d2] => { results := [.lit (.bool false)], args := [d1, d2] }
  | _ => none }
def SupplyFormsWrongFalsely : Prop := supplyFormsRow.holds Try.pinned (OpenSpec.ofChange supplyFormsWrong)

/-- 'nocturnlaw7.SupplyMore': WHATEVER THE INPUT: true; the input reads as it did. -/
def supplyMoreSpec : ChangeSpec := { name := "supplyMore", fn := fun _ => fun
  | [d1, d2, d3, d4] => { results := [.lit (.bool true)], args := [d1, d2, d3, d4] }
  | _ => none }
def supplyMoreRow : OpenClaim := { program := "ytonekkfnoncceaa", sum := "04918d1cd95fb750dd6b8f0954fd1e4ed073a71dad391b0691a34d8a3fffcf2a", func := "nocturn/nocturnlaw7.SupplyMore", spec := "supplyMore", unfollowed := true, recurses := true, apart := false }
def SupplyMoreSaid : Prop := supplyMoreRow.holds Try.pinned (OpenSpec.ofChange supplyMoreSpec)

/-- ITS FALSE NEIGHBOUR: 'it returns false'. Refute it at one input. -/
def supplyMoreWrong : ChangeSpec := { name := "supplyMore", fn := fun _ => fun
  | [d1, d2, d3, d4] => { results := [.lit (.bool false)], args := [d1, d2, d3, d4] }
  | _ => none }
def SupplyMoreWrongFalsely : Prop := supplyMoreRow.holds Try.pinned (OpenSpec.ofChange supplyMoreWrong)

/-- 'nocturnlaw7.SupplyOne': WHATEVER THE INPUT: true; the input reads as it did. -/
def supplyOneSpec : ChangeSpec := { name := "supplyOne", fn := fun _ => fun
  | [d1, d2, d3, d4] => { results := [.lit (.bool true)], args := [d1, d2, d3, d4] }
  | _ => none }
def supplyOneRow : OpenClaim := { program := "ytonekkfnoncceaa", sum := "04918d1cd95fb750dd6b8f0954fd1e4ed073a71dad391b0691a34d8a3fffcf2a", func := "nocturn/nocturnlaw7.SupplyOne", spec := "supplyOne", unfollowed := true, recurses := true, apart := false }
def SupplyOneSaid : Prop := supplyOneRow.holds Try.pinned (OpenSpec.ofChange supplyOneSpec)

/-- ITS FALSE NEIGHBOUR: 'it returns false'. Refute it at one input. -/
def supplyOneWrong : ChangeSpec := { name := "supplyOne", fn := fun _ => fun
  | [d1, d2, d3, d4] => { results := [.lit (.bool false)], args := [d1, d2, d3, d4] }
  | _ => none }
def SupplyOneWrongFalsely : Prop := supplyOneRow.holds Try.pinned (OpenSpec.ofChange supplyOneWrong)

/-- 'nocturnlaw7.SupplyLeast': WHATEVER THE INPUT: true; the input reads as it did. -/
def supplyLeastSpec : ChangeSpec := { name := "supplyLeast", fn := fun _ => fun
  | [d1, d2, d3, d4] => { results := [.lit (.bool true)], args := [d1, d2, d3, d4] }
  | _ => none }
def supplyLeastRow : OpenClaim := { program := "ytonekkfnoncceaa", sum := "04918d1cd95fb750dd6b8f0954fd1e4ed073a71dad391b0691a34d8a3fffcf2a", func := "nocturn/nocturnlaw7.SupplyLeast", spec := "supplyLeast", unfollowed := true, recurses := true, apart := false }
def SupplyLeastSaid : Prop := supplyLeastRow.holds Try.pinned (OpenSpec.ofChange supplyLeastSpec)

/-- ITS FALSE NEIGHBOUR: 'it returns false'. Refute it at one input. -/
def supplyLeastWrong : ChangeSpec := { name := "supplyLeast", fn := fun _ => fun
  | [d1, d2, d3, d4] => { results := [.lit (.bool false)], args := [d1, d2, d3, d4] }
  | _ => none }
def SupplyLeastWrongFalsely : Prop := supplyLeastRow.holds Try.pinned (OpenSpec.ofChange supplyLeastWrong)

/- THE SECOND FORM. 'bulk': how many values and letters a reading holds, each counted each time it is reached (what is shared counts as often as it is met; a slice's spare places count too). A statement '..UptoSaid' is the law's where the arguments, and the package variables that the reading takes, are together of bulk at most 1048576: NARROWER than '..Said'. Prove '..Said' where nothing that the law and all that it calls make is longer than what came in: it says more and counts as full. Else prove '..UptoSaid'. A law counts once. -/
mutual
def uptoBulk {H : Type} : DataW H → Nat
  | .lit (.string bytes) => bytes.length + 1
  | .lit _ => 1
  | .nil => 1
  | .ptr d => uptoBulk d + 1
  | .slice elems spare => uptoBulkAll elems + uptoBulkAll spare + 1
  | .agg parts => uptoBulkAll parts + 1
  | .iface _ d => uptoBulk d + 1
  | .map entries => uptoBulkEntries entries + 1
  | .held _ => 1
def uptoBulkAll {H : Type} : List (DataW H) → Nat
  | [] => 0
  | d :: r => uptoBulk d + uptoBulkAll r
def uptoBulkEntries {H : Type} : List (Lit × DataW H) → Nat
  | [] => 0
  | x :: r => uptoBulkEntry x + uptoBulkEntries r
def uptoBulkEntry {H : Type} : Lit × DataW H → Nat
  | (.string bytes, d) => bytes.length + uptoBulk d + 1
  | (_, d) => uptoBulk d + 1
 end
def uptoSmall : (H : Type) → List (DataW H) → Bool := fun _ ds => decide (uptoBulkAll ds ≤ 1048576)
def OpenSpec.upto (s : _root_.Go.ChangeSpec) : _root_.Go.OpenSpec := { _root_.Go.OpenSpec.ofChange s with cond := some uptoSmall }

/-- 'nocturnlaw7.Supplies', WHERE WHAT IT READS IS OF BULK AT MOST 1048576: true; the input reads as it did. -/
def suppliesUptoRow : OpenClaim := { program := "ytonekkfnoncceaa", sum := "04918d1cd95fb750dd6b8f0954fd1e4ed073a71dad391b0691a34d8a3fffcf2a", func := "nocturn/nocturnlaw7.Supplies", spec := "supplies", unfollowed := true, recurses := true, apart := false, narrowed := true }
def SuppliesUptoSaid : Prop := suppliesUptoRow.holds Try.pinned (OpenSpec.upto suppliesSpec)

/-- 'nocturnlaw7.SupplyWhole', WHERE WHAT IT READS IS OF BULK AT MOST 1048576: true; the input reads as it did. -/
def supplyWholeUptoRow : OpenClaim := { program := "ytonekkfnoncceaa", sum := "04918d1cd95fb750dd6b8f0954fd1e4ed073a71dad391b0691a34d8a3fffcf2a", func := "nocturn/nocturnlaw7.SupplyWhole", spec := "supplyWhole", unfollowed := true, recurses := true, apart := false, narrowed := true }
def SupplyWholeUptoSaid : Prop := supplyWholeUptoRow.holds Try.pinned (OpenSpec.upto supplyWholeSpec)

/-- 'nocturnlaw7.SupplyForms', WHERE WHAT IT READS IS OF BULK AT MOST 1048576: true; the input reads as it did. -/
def supplyFormsUptoRow : OpenClaim := { program := "ytonekkfnoncceaa", sum := "04918d1cd95fb750dd6b8f0954fd1e4ed073a71dad391b0691a34d8a3fffcf2a", func := "nocturn/nocturnlaw7.SupplyForms", spec := "supplyForms", unfollowed := true, recurses := true, apart := false, narrowed := true }
def SupplyFormsUptoSaid : Prop := supplyFormsUptoRow.holds Try.pinned (OpenSpec.upto supplyFormsSpec)

/-- 'nocturnlaw7.SupplyMore', WHERE WHAT IT READS IS OF BULK AT MOST 1048576: true; the input reads as it did. -/
def supplyMoreUptoRow : OpenClaim := { program := "ytonekkfnoncceaa", sum := "04918d1cd95fb750dd6b8f0954fd1e4ed073a71dad391b0691a34d8a3fffcf2a", func := "nocturn/nocturnlaw7.SupplyMore", spec := "supplyMore", unfollowed := true, recurses := true, apart := false, narrowed := true }
def SupplyMoreUptoSaid : Prop := supplyMoreUptoRow.holds Try.pinned (OpenSpec.upto supplyMoreSpec)

/-- 'nocturnlaw7.SupplyOne', WHERE WHAT IT READS IS OF BULK AT MOST 1048576: true; the input reads as it did. -/
def supplyOneUptoRow : OpenClaim := { program := "ytonekkfnoncceaa", sum := "04918d1cd95fb750dd6b8f0954fd1e4ed073a71dad391b0691a34d8a3fffcf2a", func := "nocturn/nocturnlaw7.SupplyOne", spec := "supplyOne", unfollowed := true, recurses := true, apart := false, narrowed := true }
def SupplyOneUptoSaid : Prop := supplyOneUptoRow.holds Try.pinned (OpenSpec.upto supplyOneSpec)

/-- 'nocturnlaw7.SupplyLeast', WHERE WHAT IT READS IS OF BULK AT MOST 1048576: true; the input reads as it did. -/
def supplyLeastUptoRow : OpenClaim := { program := "ytonekkfnoncceaa", sum := "04918d1cd95fb750dd6b8f0954fd1e4ed073a71dad391b0691a34d8a3fffcf2a", func := "nocturn/nocturnlaw7.SupplyLeast", spec := "supplyLeast", unfollowed := true, recurses := true, apart := false, narrowed := true }
def SupplyLeastUptoSaid : Prop := supplyLeastUptoRow.holds Try.pinned (OpenSpec.upto supplyLeastSpec)

end Rows
end Go.Proofs.Ytonekkfnoncceaa
