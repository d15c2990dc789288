/-
  No cell of these rows narrows 'for every input' (looked for: loops, veiled, ifaces, maps, wideKeys, modest, calm, conditions, laid).
  DERIVED. THE GIVEN ROWS OF THIS SEAT. 5 by the template 'for every input the law returns true; each argument reads behind the call as it read before'; 0 by the template 'total and deterministic' (their statements: YtpjmceiegogobaaTotals.lean).
  GIVEN WITH THE SEED: the statements are not yours to turn. If you find one false, say at which input.
  Laid BY PROGRAM, IN A SANDBOX (cutbox-rows.mjs): the forced cells as the released guide's own fill.sh prints them over the translation 35a00db6e81d841f… (all of the seat's roots in one cut). By AI agents, Wed Nov 11 2026. No macro, syntax, notation, axiom, sorry.
-/
import Derived.Test.YtpjmceiegogobaaChecked
import GoSem.Claim
import GoSem.ClaimJoined
import GoSem.ClaimMapViews
import Derived.JoinedTies
import Derived.KernelRfl
namespace Go.Proofs.Ytpjmceiegogobaa
/- THE CELL 'sum', in the pinned program and in every row, IS THE sha256 OF THE DUMP (.gsa) THAT YtpjmceiegogobaaProg.lean LOADS. Nothing in Lean hashes anything: it is a label: what it is worth is what the hold of that sum in a sandbox is worth. -/
noncomputable def Try.pinned : Pinned := { name := "ytpjmceiegogobaa", sum := "35a00db6e81d841f4edfc8576c071b32c3b62d28ab9a439b83b0205698c5e3d5", checked := Try.checked }
namespace Rows
def none {H : Type} : Left H := { results := [], args := [] }

/-- 'nocturnlaw12.Readys': WHATEVER THE INPUT: true; the input reads as it did. -/
def readysSpec : ChangeSpec := { name := "readys", fn := fun _ => fun
  | [d1, d2, d3] => { results := [.lit (.bool true)], args := [d1, d2, d3] }
  | _ => none }
def readysRow : OpenClaim := { program := "ytpjmceiegogobaa", sum := "35a00db6e81d841f4edfc8576c071b32c3b62d28ab9a439b83b0205698c5e3d5", func := "nocturn/nocturnlaw12.Readys", spec := "readys", inPlace := ["slices.overlaps[nocturn/api.Job]"], unfollowed := true, recurses := true, apart := false }
def ReadysSaid : Prop := readysRow.holds Try.pinned (OpenSpec.ofChange readysSpec)

/-- ITS FALSE NEIGHBOUR: 'it returns false'. Refute it at one input. -/
def readysWrong : ChangeSpec := { name := "readys", fn := fun _ => fun
  | [d1, d2, d3] => { results := [.lit (.bool false)], args := [d1, d2, d3] }
  | _ => none }
def ReadysWrongFalsely : Prop := readysRow.holds Try.pinned (OpenSpec.ofChange readysWrong)

/-- 'nocturnlaw12.ReadyRows': WHATEVER THE INPUT: true; the input reads as it did. -/
def readyRowsSpec : ChangeSpec := { name := "readyRows", fn := fun _ => fun
  | [d] => { results := [.lit (.bool true)], args := [d] }
  | _ => none }
def readyRowsRow : OpenClaim := { program := "ytpjmceiegogobaa", sum := "35a00db6e81d841f4edfc8576c071b32c3b62d28ab9a439b83b0205698c5e3d5", func := "nocturn/nocturnlaw12.ReadyRows", spec := "readyRows", inPlace := ["slices.overlaps[nocturn/api.Job]"], unfollowed := true, recurses := true, apart := false }
def ReadyRowsSaid : Prop := readyRowsRow.holds Try.pinned (OpenSpec.ofChange readyRowsSpec)

/-- ITS FALSE NEIGHBOUR: 'it returns false'. Refute it at one input. -/
def readyRowsWrong : ChangeSpec := { name := "readyRows", fn := fun _ => fun
  | [d] => { results := [.lit (.bool false)], args := [d] }
  | _ => none }
def ReadyRowsWrongFalsely : Prop := readyRowsRow.holds Try.pinned (OpenSpec.ofChange readyRowsWrong)

/-- 'nocturnlaw12.ReadyLate': WHATEVER THE INPUT: true; the input reads as it did. -/
def readyLateSpec : ChangeSpec := { name := "readyLate", fn := fun _ => fun
  | [d1, d2] => { results := [.lit (.bool true)], args := [d1, d2] }
  | _ => none }
def readyLateRow : OpenClaim := { program := "ytpjmceiegogobaa", sum := "35a00db6e81d841f4edfc8576c071b32c3b62d28ab9a439b83b0205698c5e3d5", func := "nocturn/nocturnlaw12.ReadyLate", spec := "readyLate", inPlace := ["slices.overlaps[nocturn/api.Job]"], unfollowed := true, recurses := true, apart := false }
def ReadyLateSaid : Prop := readyLateRow.holds Try.pinned (OpenSpec.ofChange readyLateSpec)

/-- ITS FALSE NEIGHBOUR: 'it returns false'. Refute it at one input. -/
def readyLateWrong : ChangeSpec := { name := "readyLate", fn := fun _ => fun
  | [d1, d2] => { results := [.lit (.bool false)], args := [d1, d2] }
  | _ => none }
def ReadyLateWrongFalsely : Prop := readyLateRow.holds Try.pinned (OpenSpec.ofChange readyLateWrong)

/-- 'nocturnlaw12.ReadyForms': WHATEVER THE INPUT: true; the input reads as it did. -/
def readyFormsSpec : ChangeSpec := { name := "readyForms", fn := fun _ => fun
  | [d1, d2] => { results := [.lit (.bool true)], args := [d1, d2] }
  | _ => none }
def readyFormsRow : OpenClaim := { program := "ytpjmceiegogobaa", sum := "35a00db6e81d841f4edfc8576c071b32c3b62d28ab9a439b83b0205698c5e3d5", func := "nocturn/nocturnlaw12.ReadyForms", spec := "readyForms", inPlace := ["slices.overlaps[nocturn/api.Job]"], unfollowed := true, recurses := true, apart := false }
def ReadyFormsSaid : Prop := readyFormsRow.holds Try.pinned (OpenSpec.ofChange readyFormsSpec)

/-- ITS FALSE NEIGHBOUR: 'it returns false'. Refute it at one input. -/
def readyFormsWrong : ChangeSpec := { name := "readyForms", fn := fun _ => fun
  | [d1, d2] => { results := [.lit (.bool false)], args := [d1, d2] }
  | _ => none }
def ReadyFormsWrongFalsely : Prop := readyFormsRow.holds Try.pinned (OpenSpec.ofChange readyFormsWrong)

/-- 'nocturnlaw12.ReadyPlace': WHATEVER THE INPUT: true; the input reads as it did. -/
def readyPlaceSpec : ChangeSpec := { name := "readyPlace", fn := fun _ => fun
  | [d1, d2] => { results := [.lit (.bool true)], args := [d1, d2] }
  | _ => none }
def readyPlaceRow : OpenClaim := { program := "ytpjmceiegogobaa", sum := "35a00db6e81d841f4edfc8576c071b32c3b62d28ab9a439b83b0205698c5e3d5", func := "nocturn/nocturnlaw12.ReadyPlace", spec := "readyPlace", inPlace := ["slices.overlaps[nocturn/api.Job]"], unfollowed := true, recurses := true, apart := false }
def ReadyPlaceSaid : Prop := readyPlaceRow.holds Try.pinned (OpenSpec.ofChange readyPlaceSpec)

/-- ITS FALSE NEIGHBOUR: 'it returns false'. Refute it at one input. -/
def readyPlaceWrong : ChangeSpec := { name := "readyPlace", fn := fun _ => fun
  | [d1, d2] => { results := [.lit (.bool false)], args := [d1, d2] }
  | _ => none }
def ReadyPlaceWrongFalsely : Prop := readyPlaceRow.holds Try.pinned (OpenSpec.ofChange readyPlaceWrong)

/- THE SECOND FORM. 'bulk': how many values and letters a reading holds, each counted each time it is reached (what is shared counts as often as it is met; a slice's spare places count too). A statement '..UptoSaid' is the law's where the arguments, and the package variables that the reading takes, are together of bulk at most 1048576: NARROWER than '..Said'. Prove '..Said' where nothing that the law and all that it calls make is longer than what came in: it says more and counts as full. Else prove '..UptoSaid'. A law counts once. -/
mutual
def uptoBulk {H : Type} : DataW H → Nat
  | .lit (.string bytes) => bytes.length + 1
  | .lit _ => 1
  | .nil => 1
  | .ptr d => uptoBulk d + 1
  | .slice elems spare => uptoBulkAll elems + uptoBulkAll spare + 1
  | .agg parts => uptoBulkAll parts + 1
  | .iface _ d => uptoBulk d + 1
  | .map entries => uptoBulkEntries entries + 1
  | .held _ => 1
def uptoBulkAll {H : Type} : List (DataW H) → Nat
  | [] => 0
  | d :: r => uptoBulk d + uptoBulkAll r
def uptoBulkEntries {H : Type} : List (Lit × DataW H) → Nat
  | [] => 0
  | x :: r => uptoBulkEntry x + uptoBulkEntries r
def uptoBulkEntry {H : Type} : Lit × DataW H → Nat
  | (.string bytes, d) => bytes.length + uptoBulk d + 1
  | (_, d) => uptoBulk d + 1
 end
def uptoSmall : (H : Type) → List (DataW H) → Bool := fun _ ds => decide (uptoBulkAll ds ≤ 1048576)
def OpenSpec.upto (s : _root_.Go.ChangeSpec) : _root_.Go.OpenSpec := { _root_.Go.OpenSpec.ofChange s with cond := some uptoSmall }

/-- 'nocturnlaw12.Readys', WHERE WHAT IT READS IS OF BULK AT MOST 1048576: true; the input reads as it did. -/
def readysUptoRow : OpenClaim := { program := "ytpjmceiegogobaa", sum := "35a00db6e81d841f4edfc8576c071b32c3b62d28ab9a439b83b0205698c5e3d5", func := "nocturn/nocturnlaw12.Readys", spec := "readys", inPlace := ["slices.overlaps[nocturn/api.Job]"], unfollowed := true, recurses := true, apart := false, narrowed := true }
def ReadysUptoSaid : Prop := readysUptoRow.holds Try.pinned (OpenSpec.upto readysSpec)

/-- 'nocturnlaw12.ReadyRows', WHERE WHAT IT READS IS OF BULK AT MOST 1048576: true; the input reads as it did. -/
def readyRowsUptoRow : OpenClaim := { program := "ytpjmceiegogobaa", sum := "35a00db6e81d841f4edfc8576c071b32c3b62d28ab9a439b83b0205698c5e3d5", func := "nocturn/nocturnlaw12.ReadyRows", spec := "readyRows", inPlace := ["slices.overlaps[nocturn/api.Job]"], unfollowed := true, recurses := true, apart := false, narrowed := true }
def ReadyRowsUptoSaid : Prop := readyRowsUptoRow.holds Try.pinned (OpenSpec.upto readyRowsSpec)

/-- 'nocturnlaw12.ReadyLate', WHERE WHAT IT READS IS OF BULK AT MOST 1048576: true; the input reads as it did. -/
def readyLateUptoRow : OpenClaim := { program := "ytpjmceiegogobaa", sum := "35a00db6e81d841f4edfc8576c071b32c3b62d28ab9a439b83b0205698c5e3d5", func := "nocturn/nocturnlaw12.ReadyLate", spec := "readyLate", inPlace := ["slices.overlaps[nocturn/api.Job]"], unfollowed := true, recurses := true, apart := false, narrowed := true }
def ReadyLateUptoSaid : Prop := readyLateUptoRow.holds Try.pinned (OpenSpec.upto readyLateSpec)

/-- 'nocturnlaw12.ReadyForms', WHERE WHAT IT READS IS OF BULK AT MOST 1048576: true; the input reads as it did. -/
def readyFormsUptoRow : OpenClaim := { program := "ytpjmceiegogobaa", sum := "35a00db6e81d841f4edfc8576c071b32c3b62d28ab9a439b83b0205698c5e3d5", func := "nocturn/nocturnlaw12.ReadyForms", spec := "readyForms", inPlace := ["slices.overlaps[nocturn/api.Job]"], unfollowed := true, recurses := true, apart := false, narrowed := true }
def ReadyFormsUptoSaid : Prop := readyFormsUptoRow.holds Try.pinned (OpenSpec.upto readyFormsSpec)

/-- 'nocturnlaw12.ReadyPlace', WHERE WHAT IT READS IS OF BULK AT MOST 1048576: true; the input reads as it did. -/
def readyPlaceUptoRow : OpenClaim := { program := "ytpjmceiegogobaa", sum := "35a00db6e81d841f4edfc8576c071b32c3b62d28ab9a439b83b0205698c5e3d5", func := "nocturn/nocturnlaw12.ReadyPlace", spec := "readyPlace", inPlace := ["slices.overlaps[nocturn/api.Job]"], unfollowed := true, recurses := true, apart := false, narrowed := true }
def ReadyPlaceUptoSaid : Prop := readyPlaceUptoRow.holds Try.pinned (OpenSpec.upto readyPlaceSpec)

end Rows
end Go.Proofs.Ytpjmceiegogobaa
