/-
  No cell of these rows narrows 'for every input' (looked for: loops, veiled, ifaces, maps, wideKeys, modest, calm, conditions, laid).
  DERIVED. THE GIVEN ROWS OF THIS SEAT. 5 by the template 'for every input the law returns true; each argument reads behind the call as it read before'; 0 by the template 'total and deterministic' (their statements: YtkjjfidbmkpljaaTotals.lean).
  GIVEN WITH THE SEED: the statements are not yours to turn. If you find one false, say at which input.
  Laid BY PROGRAM, IN A SANDBOX (cutbox-rows.mjs): the forced cells as the released guide's own fill.sh prints them over the translation 0365d2d925fa30f5… (all of the seat's roots in one cut). By AI agents, Wed Nov 11 2026. No macro, syntax, notation, axiom, sorry.
-/
import Derived.Test.YtkjjfidbmkpljaaChecked
import GoSem.Claim
import GoSem.ClaimJoined
import GoSem.ClaimMapViews
import Derived.JoinedTies
import Derived.KernelRfl
namespace Go.Proofs.Ytkjjfidbmkpljaa
/- THE CELL 'sum', in the pinned program and in every row, IS THE sha256 OF THE DUMP (.gsa) THAT YtkjjfidbmkpljaaProg.lean LOADS. Nothing in Lean hashes anything: it is a label: what it is worth is what the hold of that sum in a sandbox is worth. -/
noncomputable def Try.pinned : Pinned := { name := "ytkjjfidbmkpljaa", sum := "0365d2d925fa30f590ff14d0d69ba69df8cbb72bfcd24c960970eebac76e126d", checked := Try.checked }
namespace Rows
def none {H : Type} : Left H := { results := [], args := [] }

/-- 'nocturnlaw17.PortActs': WHATEVER THE INPUT: true; the input reads as it did. -/
def portActsSpec : ChangeSpec := { name := "portActs", fn := fun _ => fun
  | [d1, d2] => { results := [.lit (.bool true)], args := [d1, d2] }
  | _ => none }
def portActsRow : OpenClaim := { program := "ytkjjfidbmkpljaa", sum := "0365d2d925fa30f590ff14d0d69ba69df8cbb72bfcd24c960970eebac76e126d", func := "nocturn/nocturnlaw17.PortActs", spec := "portActs", unfollowed := true, recurses := true, apart := false }
def PortActsSaid : Prop := portActsRow.holds Try.pinned (OpenSpec.ofChange portActsSpec)

/-- ITS FALSE NEIGHBOUR: 'it returns false'. Refute it at one input. -/
def portActsWrong : ChangeSpec := { name := "portActs", fn := fun _ => fun
  | [d1, d2] => { results := [.lit (.bool false)], args := [d1, d2] }
  | _ => none }
def PortActsWrongFalsely : Prop := portActsRow.holds Try.pinned (OpenSpec.ofChange portActsWrong)

/-- 'nocturnlaw17.PortBlind': WHATEVER THE INPUT: true; the input reads as it did. -/
def portBlindSpec : ChangeSpec := { name := "portBlind", fn := fun _ => fun
  | [d1, d2, d3] => { results := [.lit (.bool true)], args := [d1, d2, d3] }
  | _ => none }
def portBlindRow : OpenClaim := { program := "ytkjjfidbmkpljaa", sum := "0365d2d925fa30f590ff14d0d69ba69df8cbb72bfcd24c960970eebac76e126d", func := "nocturn/nocturnlaw17.PortBlind", spec := "portBlind", unfollowed := true, recurses := true, apart := false }
def PortBlindSaid : Prop := portBlindRow.holds Try.pinned (OpenSpec.ofChange portBlindSpec)

/-- ITS FALSE NEIGHBOUR: 'it returns false'. Refute it at one input. -/
def portBlindWrong : ChangeSpec := { name := "portBlind", fn := fun _ => fun
  | [d1, d2, d3] => { results := [.lit (.bool false)], args := [d1, d2, d3] }
  | _ => none }
def PortBlindWrongFalsely : Prop := portBlindRow.holds Try.pinned (OpenSpec.ofChange portBlindWrong)

/-- 'nocturnlaw17.PortRows': WHATEVER THE INPUT: true; the input reads as it did. -/
def portRowsSpec : ChangeSpec := { name := "portRows", fn := fun _ => fun
  | [d1, d2, d3] => { results := [.lit (.bool true)], args := [d1, d2, d3] }
  | _ => none }
def portRowsRow : OpenClaim := { program := "ytkjjfidbmkpljaa", sum := "0365d2d925fa30f590ff14d0d69ba69df8cbb72bfcd24c960970eebac76e126d", func := "nocturn/nocturnlaw17.PortRows", spec := "portRows", unfollowed := true, recurses := true, apart := false }
def PortRowsSaid : Prop := portRowsRow.holds Try.pinned (OpenSpec.ofChange portRowsSpec)

/-- ITS FALSE NEIGHBOUR: 'it returns false'. Refute it at one input. -/
def portRowsWrong : ChangeSpec := { name := "portRows", fn := fun _ => fun
  | [d1, d2, d3] => { results := [.lit (.bool false)], args := [d1, d2, d3] }
  | _ => none }
def PortRowsWrongFalsely : Prop := portRowsRow.holds Try.pinned (OpenSpec.ofChange portRowsWrong)

/-- 'nocturnlaw17.PortForms': WHATEVER THE INPUT: true; the input reads as it did. -/
def portFormsSpec : ChangeSpec := { name := "portForms", fn := fun _ => fun
  | [d1, d2, d3] => { results := [.lit (.bool true)], args := [d1, d2, d3] }
  | _ => none }
def portFormsRow : OpenClaim := { program := "ytkjjfidbmkpljaa", sum := "0365d2d925fa30f590ff14d0d69ba69df8cbb72bfcd24c960970eebac76e126d", func := "nocturn/nocturnlaw17.PortForms", spec := "portForms", unfollowed := true, recurses := true, apart := false }
def PortFormsSaid : Prop := portFormsRow.holds Try.pinned (OpenSpec.ofChange portFormsSpec)

/-- ITS FALSE NEIGHBOUR: 'it returns false'. Refute it at one input. -/
def portFormsWrong : ChangeSpec := { name := "portForms", fn := fun _ => fun
  | [d1, d2, d3] => { results := [.lit (.bool false)], args := [d1, d2, d3] }
  | _ => none }
def PortFormsWrongFalsely : Prop := portFormsRow.holds Try.pinned (OpenSpec.ofChange portFormsWrong)

/-- 'nocturnlaw17.PortTwo': WHATEVER THE INPUT: true; the input reads as it did. -/
def portTwoSpec : ChangeSpec := { name := "portTwo", fn := fun _ => fun
  | [d1, d2] => { results := [.lit (.bool true)], args := [d1, d2] }
  | _ => none }
def portTwoRow : OpenClaim := { program := "ytkjjfidbmkpljaa", sum := "0365d2d925fa30f590ff14d0d69ba69df8cbb72bfcd24c960970eebac76e126d", func := "nocturn/nocturnlaw17.PortTwo", spec := "portTwo", unfollowed := true, recurses := true, apart := false }
def PortTwoSaid : Prop := portTwoRow.holds Try.pinned (OpenSpec.ofChange portTwoSpec)

/-- ITS FALSE NEIGHBOUR: 'it returns false'. Refute it at one input. -/
def portTwoWrong : ChangeSpec := { name := "portTwo", fn := fun _ => fun
  | [d1, d2] => { results := [.lit (.bool false)], args := [d1, d2] }
  | _ => none }
def PortTwoWrongFalsely : Prop := portTwoRow.holds Try.pinned (OpenSpec.ofChange portTwoWrong)

/- THE SECOND FORM. 'bulk': how many values and letters a reading holds, each counted each time it is reached (what is shared counts as often as it is met; a slice's spare places count too). A statement '..UptoSaid' is the law's where the arguments, and the package variables that the reading takes, are together of bulk at most 1048576: NARROWER than '..Said'. Prove '..Said' where nothing that the law and all that it calls make is longer than what came in: it says more and counts as full. Else prove '..UptoSaid'. A law counts once. -/
mutual
def uptoBulk {H : Type} : DataW H → Nat
  | .lit (.string bytes) => bytes.length + 1
  | .lit _ => 1
  | .nil => 1
  | .ptr d => uptoBulk d + 1
  | .slice elems spare => uptoBulkAll elems + uptoBulkAll spare + 1
  | .agg parts => uptoBulkAll parts + 1
  | .iface _ d => uptoBulk d + 1
  | .map entries => uptoBulkEntries entries + 1
  | .held _ => 1
def uptoBulkAll {H : Type} : List (DataW H) → Nat
  | [] => 0
  | d :: r => uptoBulk d + uptoBulkAll r
def uptoBulkEntries {H : Type} : List (Lit × DataW H) → Nat
  | [] => 0
  | x :: r => uptoBulkEntry x + uptoBulkEntries r
def uptoBulkEntry {H : Type} : Lit × DataW H → Nat
  | (.string bytes, d) => bytes.length + uptoBulk d + 1
  | (_, d) => uptoBulk d + 1
 end
def uptoSmall : (H : Type) → List (DataW H) → Bool := fun _ ds => decide (uptoBulkAll ds ≤ 1048576)
def OpenSpec.upto (s : _root_.Go.ChangeSpec) : _root_.Go.OpenSpec := { _root_.Go.OpenSpec.ofChange s with cond := some uptoSmall }

/-- 'nocturnlaw17.PortActs', WHERE WHAT IT READS IS OF BULK AT MOST 1048576: true; the input reads as it did. -/
def portActsUptoRow : OpenClaim := { program := "ytkjjfidbmkpljaa", sum := "0365d2d925fa30f590ff14d0d69ba69df8cbb72bfcd24c960970eebac76e126d", func := "nocturn/nocturnlaw17.PortActs", spec := "portActs", unfollowed := true, recurses := true, apart := false, narrowed := true }
def PortActsUptoSaid : Prop := portActsUptoRow.holds Try.pinned (OpenSpec.upto portActsSpec)

/-- 'nocturnlaw17.PortBlind', WHERE WHAT IT READS IS OF BULK AT MOST 1048576: true; the input reads as it did. -/
def portBlindUptoRow : OpenClaim := { program := "ytkjjfidbmkpljaa", sum := "0365d2d925fa30f590ff14d0d69ba69df8cbb72bfcd24c960970eebac76e126d", func := "nocturn/nocturnlaw17.PortBlind", spec := "portBlind", unfollowed := true, recurses := true, apart := false, narrowed := true }
def PortBlindUptoSaid : Prop := portBlindUptoRow.holds Try.pinned (OpenSpec.upto portBlindSpec)

/-- 'nocturnlaw17.PortRows', WHERE WHAT IT READS IS OF BULK AT MOST 1048576: true; the input reads as it did. -/
def portRowsUptoRow : OpenClaim := { program := "ytkjjfidbmkpljaa", sum := "0365d2d925fa30f590ff14d0d69ba69df8cbb72bfcd24c960970eebac76e126d", func := "nocturn/nocturnlaw17.PortRows", spec := "portRows", unfollowed := true, recurses := true, apart := false, narrowed := true }
def PortRowsUptoSaid : Prop := portRowsUptoRow.holds Try.pinned (OpenSpec.upto portRowsSpec)

/-- 'nocturnlaw17.PortForms', WHERE WHAT IT READS IS OF BULK AT MOST 1048576: true; the input reads as it did. -/
def portFormsUptoRow : OpenClaim := { program := "ytkjjfidbmkpljaa", sum := "0365d2d925fa30f590ff14d0d69ba69df8cbb72bfcd24c960970eebac76e126d", func := "nocturn/nocturnlaw17.PortForms", spec := "portForms", unfollowed := true, recurses := true, apart := false, narrowed := true }
def PortFormsUptoSaid : Prop := portFormsUptoRow.holds Try.pinned (OpenSpec.upto portFormsSpec)

/-- 'nocturnlaw17.PortTwo', WHERE WHAT IT READS IS OF BULK AT MOST 1048576: true; the input reads as it did. -/
def portTwoUptoRow : OpenClaim := { program := "ytkjjfidbmkpljaa", sum := "0365d2d925fa30f590ff14d0d69ba69df8cbb72bfcd24c960970eebac76e126d", func := "nocturn/nocturnlaw17.PortTwo", spec := "portTwo", unfollowed := true, recurses := true, apart := false, narrowed := true }
def PortTwoUptoSaid : Prop := portTwoUptoRow.holds Try.pinned (OpenSpec.upto portTwoSpec)

end Rows
end Go.Proofs.Ytkjjfidbmkpljaa
