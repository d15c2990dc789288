/-
  No cell of these rows narrows 'for every input' (looked for: loops, veiled, ifaces, maps, wideKeys, modest, calm, conditions, laid).
  DERIVED. THE GIVEN ROWS OF THIS SEAT. 5 by the template 'for every input the law returns true; each argument reads behind the call as it read before'; 0 by the template 'total and deterministic' (their statements: YtgpefejghhgnmaaTotals.lean).
  GIVEN WITH THE SEED: the statements are not yours to turn. If you find one false, say at which input.
  Laid BY PROGRAM, IN A SANDBOX (cutbox-rows.mjs): the forced cells as the released guide's own fill.sh prints them over the translation 73009856b6aa3b59… (all of the seat's roots in one cut). By AI agents, Wed Nov 11 2026. No macro, syntax, notation, axiom, sorry.
-/
import Derived.Test.YtgpefejghhgnmaaChecked
import GoSem.Claim
import GoSem.ClaimJoined
import GoSem.ClaimMapViews
import Derived.JoinedTies
import Derived.KernelRfl
namespace Go.Proofs.Ytgpefejghhgnmaa
/- THE CELL 'sum', in the pinned program and in every row, IS THE sha256 OF THE DUMP (.gsa) THAT YtgpefejghhgnmaaProg.lean LOADS. Nothing in Lean hashes anything: it is a label: what it is worth is what the hold of that sum in a sandbox is worth. -/
noncomputable def Try.pinned : Pinned := { name := "ytgpefejghhgnmaa", sum := "73009856b6aa3b59d4ac526de2c0838a14bb983f109cec1853a7751c2ae52e67", checked := Try.checked }
namespace Rows
def none {H : Type} : Left H := { results := [], args := [] }

/-- 'nocturnlaw6.Frames': WHATEVER THE INPUT: true; the input reads as it did. -/
def framesSpec : ChangeSpec := { name := "frames", fn := fun _ => fun
  | [d1, d2, d3] => { results := [.lit (.bool true)], args := [d1, d2, d3] }
  | _ => none }
def framesRow : OpenClaim := { program := "ytgpefejghhgnmaa", sum := "73009856b6aa3b59d4ac526de2c0838a14bb983f109cec1853a7751c2ae52e67", func := "nocturn/nocturnlaw6.Frames", spec := "frames", unfollowed := true, recurses := true, apart := false }
def FramesSaid : Prop := framesRow.holds Try.pinned (OpenSpec.ofChange framesSpec)

/-- ITS FALSE NEIGHBOUR: 'it returns false'. Refute it at one input. -/
def framesWrong : ChangeSpec := { name := "frames", fn := fun _ => fun
  | [d1, d2, d3] => { results := [.lit (.bool false)], args := [d1, d2, d3] }
  | _ => none }
def FramesWrongFalsely : Prop := framesRow.holds Try.pinned (OpenSpec.ofChange framesWrong)

/-- 'nocturnlaw6.FrameCounts': WHATEVER THE INPUT: true; the input reads as it did. -/
def frameCountsSpec : ChangeSpec := { name := "frameCounts", fn := fun _ => fun
  | [d1, d2] => { results := [.lit (.bool true)], args := [d1, d2] }
  | _ => none }
def frameCountsRow : OpenClaim := { program := "ytgpefejghhgnmaa", sum := "73009856b6aa3b59d4ac526de2c0838a14bb983f109cec1853a7751c2ae52e67", func := "nocturn/nocturnlaw6.FrameCounts", spec := "frameCounts", unfollowed := true, recurses := true, apart := false }
def FrameCountsSaid : Prop := frameCountsRow.holds Try.pinned (OpenSpec.ofChange frameCountsSpec)

/-- ITS FALSE NEIGHBOUR: 'it returns false'. Refute it at one input. -/
def frameCountsWrong : ChangeSpec := { name := "frameCounts", fn := fun _ => fun
  | [d1, d2] => { results := [.lit (.bool false)], args := [d1, d2] }
  | _ => none }
def FrameCountsWrongFalsely : Prop := frameCountsRow.holds Try.pinned (OpenSpec.ofChange frameCountsWrong)

/-- 'nocturnlaw6.FrameHyper': WHATEVER THE INPUT: true; the input reads as it did. -/
def frameHyperSpec : ChangeSpec := { name := "frameHyper", fn := fun _ => fun
  | [d] => { results := [.lit (.bool true)], args := [d] }
  | _ => none }
def frameHyperRow : OpenClaim := { program := "ytgpefejghhgnmaa", sum := "73009856b6aa3b59d4ac526de2c0838a14bb983f109cec1853a7751c2ae52e67", func := "nocturn/nocturnlaw6.FrameHyper", spec := "frameHyper", unfollowed := true, recurses := true, apart := false }
def FrameHyperSaid : Prop := frameHyperRow.holds Try.pinned (OpenSpec.ofChange frameHyperSpec)

/-- ITS FALSE NEIGHBOUR: 'it returns false'. Refute it at one input. -/
def frameHyperWrong : ChangeSpec := { name := "frameHyper", fn := fun _ => fun
  | [d] => { results := [.lit (.bool false)], args := [d] }
  | _ => none }
def FrameHyperWrongFalsely : Prop := frameHyperRow.holds Try.pinned (OpenSpec.ofChange frameHyperWrong)

/-- 'nocturnlaw6.FrameForms': WHATEVER THE INPUT: true; the input reads as it did. -/
def frameFormsSpec : ChangeSpec := { name := "frameForms", fn := fun _ => fun
  | [d1, d2] => { results := [.lit (.bool true)], args := [d1, d2] }
  | _ => none }
def frameFormsRow : OpenClaim := { program := "ytgpefejghhgnmaa", sum := "73009856b6aa3b59d4ac526de2c0838a14bb983f109cec1853a7751c2ae52e67", func := "nocturn/nocturnlaw6.FrameForms", spec := "frameForms", unfollowed := true, recurses := true, apart := false }
def FrameFormsSaid : Prop := frameFormsRow.holds Try.pinned (OpenSpec.ofChange frameFormsSpec)

/-- ITS FALSE NEIGHBOUR: 'it returns false'. Refute it at one input. -/
def frameFormsWrong : ChangeSpec := { name := "frameForms", fn := fun _ => fun
  | [d1, d2] => { results := [.lit (.bool false)], args := [d1, d2] }
  | _ => none }
def FrameFormsWrongFalsely : Prop := frameFormsRow.holds Try.pinned (OpenSpec.ofChange frameFormsWrong)

/-- 'nocturnlaw6.FrameWindows': WHATEVER THE INPUT: true; the input reads as it did. -/
def frameWindowsSpec : ChangeSpec := { name := "frameWindows", fn := fun _ => fun
  | [d1, d2, d3] => { results := [.lit (.bool true)], args := [d1, d2, d3] }
  | _ => none }
def frameWindowsRow : OpenClaim := { program := "ytgpefejghhgnmaa", sum := "73009856b6aa3b59d4ac526de2c0838a14bb983f109cec1853a7751c2ae52e67", func := "nocturn/nocturnlaw6.FrameWindows", spec := "frameWindows", unfollowed := true, recurses := true, apart := false }
def FrameWindowsSaid : Prop := frameWindowsRow.holds Try.pinned (OpenSpec.ofChange frameWindowsSpec)

/-- ITS FALSE NEIGHBOUR: 'it returns false'. Refute it at one input. -/
def frameWindowsWrong : ChangeSpec := { name := "frameWindows", fn := fun _ => fun
  | [d1, d2, d3] => { results := [.lit (.bool false)], args := [d1, d2, d3] }
  | _ => none }
def FrameWindowsWrongFalsely : Prop := frameWindowsRow.holds Try.pinned (OpenSpec.ofChange frameWindowsWrong)

/- THE SECOND FORM. 'bulk': how many values and letters a reading holds, each counted each time it is reached (what is shared counts as often as it is met; a slice's spare places count too). A statement '..UptoSaid' is the law's where the arguments, and the package variables that the reading takes, are together of bulk at most 1048576: NARROWER than '..Said'. Prove '..Said' where nothing that the law and all that it calls make is longer than what came in: it says more and counts as full. Else prove '..UptoSaid'. A law counts once. -/
mutual
def uptoBulk {H : Type} : DataW H → Nat
  | .lit (.string bytes) => bytes.length + 1
  | .lit _ => 1
  | .nil => 1
  | .ptr d => uptoBulk d + 1
  | .slice elems spare => uptoBulkAll elems + uptoBulkAll spare + 1
  | .agg parts => uptoBulkAll parts + 1
  | .iface _ d => uptoBulk d + 1
  | .map entries => uptoBulkEntries entries + 1
  | .held _ => 1
def uptoBulkAll {H : Type} : List (DataW H) → Nat
  | [] => 0
  | d :: r => uptoBulk d + uptoBulkAll r
def uptoBulkEntries {H : Type} : List (Lit × DataW H) → Nat
  | [] => 0
  | x :: r => uptoBulkEntry x + uptoBulkEntries r
def uptoBulkEntry {H : Type} : Lit × DataW H → Nat
  | (.string bytes, d) => bytes.length + uptoBulk d + 1
  | (_, d) => uptoBulk d + 1
 end
def uptoSmall : (H : Type) → List (DataW H) → Bool := fun _ ds => decide (uptoBulkAll ds ≤ 1048576)
def OpenSpec.upto (s : _root_.Go.ChangeSpec) : _root_.Go.OpenSpec := { _root_.Go.OpenSpec.ofChange s with cond := some uptoSmall }

/-- 'nocturnlaw6.Frames', WHERE WHAT IT READS IS OF BULK AT MOST 1048576: true; the input reads as it did. -/
def framesUptoRow : OpenClaim := { program := "ytgpefejghhgnmaa", sum := "73009856b6aa3b59d4ac526de2c0838a14bb983f109cec1853a7751c2ae52e67", func := "nocturn/nocturnlaw6.Frames", spec := "frames", unfollowed := true, recurses := true, apart := false, narrowed := true }
def FramesUptoSaid : Prop := framesUptoRow.holds Try.pinned (OpenSpec.upto framesSpec)

/-- 'nocturnlaw6.FrameCounts', WHERE WHAT IT READS IS OF BULK AT MOST 1048576: true; the input reads as it did. -/
def frameCountsUptoRow : OpenClaim := { program := "ytgpefejghhgnmaa", sum := "73009856b6aa3b59d4ac526de2c0838a14bb983f109cec1853a7751c2ae52e67", func := "nocturn/nocturnlaw6.FrameCounts", spec := "frameCounts", unfollowed := true, recurses := true, apart := false, narrowed := true }
def FrameCountsUptoSaid : Prop := frameCountsUptoRow.holds Try.pinned (OpenSpec.upto frameCountsSpec)

/-- 'nocturnlaw6.FrameHyper', WHERE WHAT IT READS IS OF BULK AT MOST 1048576: true; the input reads as it did. -/
def frameHyperUptoRow : OpenClaim := { program := "ytgpefejghhgnmaa", sum := "73009856b6aa3b59d4ac526de2c0838a14bb983f109cec1853a7751c2ae52e67", func := "nocturn/nocturnlaw6.FrameHyper", spec := "frameHyper", unfollowed := true, recurses := true, apart := false, narrowed := true }
def FrameHyperUptoSaid : Prop := frameHyperUptoRow.holds Try.pinned (OpenSpec.upto frameHyperSpec)

/-- 'nocturnlaw6.FrameForms', WHERE WHAT IT READS IS OF BULK AT MOST 1048576: true; the input reads as it did. -/
def frameFormsUptoRow : OpenClaim := { program := "ytgpefejghhgnmaa", sum := "73009856b6aa3b59d4ac526de2c0838a14bb983f109cec1853a7751c2ae52e67", func := "nocturn/nocturnlaw6.FrameForms", spec := "frameForms", unfollowed := true, recurses := true, apart := false, narrowed := true }
def FrameFormsUptoSaid : Prop := frameFormsUptoRow.holds Try.pinned (OpenSpec.upto frameFormsSpec)

/-- 'nocturnlaw6.FrameWindows', WHERE WHAT IT READS IS OF BULK AT MOST 1048576: true; the input reads as it did. -/
def frameWindowsUptoRow : OpenClaim := { program := "ytgpefejghhgnmaa", sum := "73009856b6aa3b59d4ac526de2c0838a14bb983f109cec1853a7751c2ae52e67", func := "nocturn/nocturnlaw6.FrameWindows", spec := "frameWindows", unfollowed := true, recurses := true, apart := false, narrowed := true }
def FrameWindowsUptoSaid : Prop := frameWindowsUptoRow.holds Try.pinned (OpenSpec.upto frameWindowsSpec)

end Rows
end Go.Proofs.Ytgpefejghhgnmaa
