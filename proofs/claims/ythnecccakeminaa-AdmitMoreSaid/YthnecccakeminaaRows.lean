/-
  No cell of these rows narrows 'for every input' (looked for: loops, veiled, ifaces, maps, wideKeys, modest, calm, conditions, laid).
  DERIVED. THE GIVEN ROWS OF THIS SEAT. 6 by the template 'for every input the law returns true; each argument reads behind the call as it read before'; 0 by the template 'total and deterministic' (their statements: YthnecccakeminaaTotals.lean).
  GIVEN WITH THE SEED: the statements are not yours to turn. If you find one false, say at which input.
  Laid BY PROGRAM, IN A SANDBOX (cutbox-rows.mjs): the forced cells as the released guide's own fill.sh prints them over the translation 9702ce110abe5001… (all of the seat's roots in one cut). By AI agents, Wed Nov 11 2026. No macro, syntax, notation, axiom, sorry.
-/
import Derived.Test.YthnecccakeminaaChecked
import GoSem.Claim
import GoSem.ClaimJoined
import GoSem.ClaimMapViews
import Derived.JoinedTies
import Derived.KernelRfl
namespace Go.Proofs.Ythnecccakeminaa
/- THE CELL 'sum', in the pinned program and in every row, IS THE sha256 OF THE DUMP (.gsa) THAT YthnecccakeminaaProg.lean LOADS. Nothing in Lean hashes anything: it is a label: what it is worth is what the hold of that sum in a sandbox is worth. -/
noncomputable def Try.pinned : Pinned := { name := "ythnecccakeminaa", sum := "9702ce110abe50015781fa8472b1f180bcffcb20ba850509848671d781cd7679", checked := Try.checked }
namespace Rows
def none {H : Type} : Left H := { results := [], args := [] }

/-- 'nocturnlaw9.Admits': WHATEVER THE INPUT: true; the input reads as it did. -/
def admitsSpec : ChangeSpec := { name := "admits", fn := fun _ => fun
  | [d1, d2, d3] => { results := [.lit (.bool true)], args := [d1, d2, d3] }
  | _ => none }
def admitsRow : OpenClaim := { program := "ythnecccakeminaa", sum := "9702ce110abe50015781fa8472b1f180bcffcb20ba850509848671d781cd7679", func := "nocturn/nocturnlaw9.Admits", spec := "admits", unfollowed := true, recurses := true, apart := false }
def AdmitsSaid : Prop := admitsRow.holds Try.pinned (OpenSpec.ofChange admitsSpec)

/-- ITS FALSE NEIGHBOUR: 'it returns false'. Refute it at one input. -/
def admitsWrong : ChangeSpec := { name := "admits", fn := fun _ => fun
  | [d1, d2, d3] => { results := [.lit (.bool false)], args := [d1, d2, d3] }
  | _ => none }
def AdmitsWrongFalsely : Prop := admitsRow.holds Try.pinned (OpenSpec.ofChange admitsWrong)

/-- 'nocturnlaw9.AdmitLeast': WHATEVER THE INPUT: true; the input reads as it did. -/
def admitLeastSpec : ChangeSpec := { name := "admitLeast", fn := fun _ => fun
  | [d1, d2, d3] => { results := [.lit (.bool true)], args := [d1, d2, d3] }
  | _ => none }
def admitLeastRow : OpenClaim := { program := "ythnecccakeminaa", sum := "9702ce110abe50015781fa8472b1f180bcffcb20ba850509848671d781cd7679", func := "nocturn/nocturnlaw9.AdmitLeast", spec := "admitLeast", unfollowed := true, recurses := true, apart := false }
def AdmitLeastSaid : Prop := admitLeastRow.holds Try.pinned (OpenSpec.ofChange admitLeastSpec)

/-- ITS FALSE NEIGHBOUR: 'it returns false'. Refute it at one input. -/
def admitLeastWrong : ChangeSpec := { name := "admitLeast", fn := fun _ => fun
  | [d1, d2, d3] => { results := [.lit (.bool false)], args := [d1, d2, d3] }
  | _ => none }
def AdmitLeastWrongFalsely : Prop := admitLeastRow.holds Try.pinned (OpenSpec.ofChange admitLeastWrong)

/-- 'nocturnlaw9.AdmitAlone': WHATEVER THE INPUT: true; the input reads as it did. -/
def admitAloneSpec : ChangeSpec := { name := "admitAlone", fn := fun _ => fun
  | [d1, d2, d3] => { results := [.lit (.bool true)], args := [d1, d2, d3] }
  | _ => none }
def admitAloneRow : OpenClaim := { program := "ythnecccakeminaa", sum := "9702ce110abe50015781fa8472b1f180bcffcb20ba850509848671d781cd7679", func := "nocturn/nocturnlaw9.AdmitAlone", spec := "admitAlone", unfollowed := true, recurses := true, apart := false }
def AdmitAloneSaid : Prop := admitAloneRow.holds Try.pinned (OpenSpec.ofChange admitAloneSpec)

/-- ITS FALSE NEIGHBOUR: 'it returns false'. Refute it at one input. -/
def admitAloneWrong : ChangeSpec := { name := "admitAlone", fn := fun _ => fun
  | [d1, d2, d3] => { results := [.lit (.bool false)], args := [d1, d2, d3] }
  | _ => none }
def AdmitAloneWrongFalsely : Prop := admitAloneRow.holds Try.pinned (OpenSpec.ofChange admitAloneWrong)

/-- 'nocturnlaw9.AdmitMore': WHATEVER THE INPUT: true; the input reads as it did. -/
def admitMoreSpec : ChangeSpec := { name := "admitMore", fn := fun _ => fun
  | [d1, d2, d3] => { results := [.lit (.bool true)], args := [d1, d2, d3] }
  | _ => none }
def admitMoreRow : OpenClaim := { program := "ythnecccakeminaa", sum := "9702ce110abe50015781fa8472b1f180bcffcb20ba850509848671d781cd7679", func := "nocturn/nocturnlaw9.AdmitMore", spec := "admitMore", unfollowed := true, recurses := true, apart := false }
def AdmitMoreSaid : Prop := admitMoreRow.holds Try.pinned (OpenSpec.ofChange admitMoreSpec)

/-- ITS FALSE NEIGHBOUR: 'it returns false'. Refute it at one input. -/
def admitMoreWrong : ChangeSpec := { name := "admitMore", fn := fun _ => fun
  | [d1, d2, d3] => { results := [.lit (.bool false)], args := [d1, d2, d3] }
  | _ => none }
def AdmitMoreWrongFalsely : Prop := admitMoreRow.holds Try.pinned (OpenSpec.ofChange admitMoreWrong)

/-- 'nocturnlaw9.AdmitForms': WHATEVER THE INPUT: true; the input reads as it did. -/
def admitFormsSpec : ChangeSpec := { name := "admitForms", fn := fun _ => fun
  | [d1, d2] => { results := [.lit (.bool true)], args := [d1, d2] }
  | _ => none }
def admitFormsRow : OpenClaim := { program := "ythnecccakeminaa", sum := "9702ce110abe50015781fa8472b1f180bcffcb20ba850509848671d781cd7679", func := "nocturn/nocturnlaw9.AdmitForms", spec := "admitForms", unfollowed := true, recurses := true, apart := false }
def AdmitFormsSaid : Prop := admitFormsRow.holds Try.pinned (OpenSpec.ofChange admitFormsSpec)

/-- ITS FALSE NEIGHBOUR: 'it returns false'. Refute it at one input. -/
def admitFormsWrong : ChangeSpec := { name := "admitForms", fn := fun _ => fun
  | [d1, d2] => { results := [.lit (.bool false)], args := [d1, d2] }
  | _ => none }
def AdmitFormsWrongFalsely : Prop := admitFormsRow.holds Try.pinned (OpenSpec.ofChange admitFormsWrong)

/-- 'nocturnlaw9.AdmitHigh': WHATEVER THE INPUT: true; the input reads as it did. -/
def admitHighSpec : ChangeSpec := { name := "admitHigh", fn := fun _ => fun
  | [d1, d2, d3] => { results := [.lit (.bool true)], args := [d1, d2, d3] }
  | _ => none }
def admitHighRow : OpenClaim := { program := "ythnecccakeminaa", sum := "9702ce110abe50015781fa8472b1f180bcffcb20ba850509848671d781cd7679", func := "nocturn/nocturnlaw9.AdmitHigh", spec := "admitHigh", unfollowed := true, recurses := true, apart := false }
def AdmitHighSaid : Prop := admitHighRow.holds Try.pinned (OpenSpec.ofChange admitHighSpec)

/-- ITS FALSE NEIGHBOUR: 'it returns false'. Refute it at one input. -/
def admitHighWrong : ChangeSpec := { name := "admitHigh", fn := fun _ => fun
  | [d1, d2, d3] => { results := [.lit (.bool false)], args := [d1, d2, d3] }
  | _ => none }
def AdmitHighWrongFalsely : Prop := admitHighRow.holds Try.pinned (OpenSpec.ofChange admitHighWrong)

/- THE SECOND FORM. 'bulk': how many values and letters a reading holds, each counted each time it is reached (what is shared counts as often as it is met; a slice's spare places count too). A statement '..UptoSaid' is the law's where the arguments, and the package variables that the reading takes, are together of bulk at most 1048576: NARROWER than '..Said'. Prove '..Said' where nothing that the law and all that it calls make is longer than what came in: it says more and counts as full. Else prove '..UptoSaid'. A law counts once. -/
mutual
def uptoBulk {H : Type} : DataW H → Nat
  | .lit (.string bytes) => bytes.length + 1
  | .lit _ => 1
  | .nil => 1
  | .ptr d => uptoBulk d + 1
  | .slice elems spare => uptoBulkAll elems + uptoBulkAll spare + 1
  | .agg parts => uptoBulkAll parts + 1
  | .iface _ d => uptoBulk d + 1
  | .map entries => uptoBulkEntries entries + 1
  | .held _ => 1
def uptoBulkAll {H : Type} : List (DataW H) → Nat
  | [] => 0
  | d :: r => uptoBulk d + uptoBulkAll r
def uptoBulkEntries {H : Type} : List (Lit × DataW H) → Nat
  | [] => 0
  | x :: r => uptoBulkEntry x + uptoBulkEntries r
def uptoBulkEntry {H : Type} : Lit × DataW H → Nat
  | (.string bytes, d) => bytes.length + uptoBulk d + 1
  | (_, d) => uptoBulk d + 1
 end
def uptoSmall : (H : Type) → List (DataW H) → Bool := fun _ ds => decide (uptoBulkAll ds ≤ 1048576)
def OpenSpec.upto (s : _root_.Go.ChangeSpec) : _root_.Go.OpenSpec := { _root_.Go.OpenSpec.ofChange s with cond := some uptoSmall }

/-- 'nocturnlaw9.Admits', WHERE WHAT IT READS IS OF BULK AT MOST 1048576: true; the input reads as it did. -/
def admitsUptoRow : OpenClaim := { program := "ythnecccakeminaa", sum := "9702ce110abe50015781fa8472b1f180bcffcb20ba850509848671d781cd7679", func := "nocturn/nocturnlaw9.Admits", spec := "admits", unfollowed := true, recurses := true, apart := false, narrowed := true }
def AdmitsUptoSaid : Prop := admitsUptoRow.holds Try.pinned (OpenSpec.upto admitsSpec)

/-- 'nocturnlaw9.AdmitLeast', WHERE WHAT IT READS IS OF BULK AT MOST 1048576: true; the input reads as it did. -/
def admitLeastUptoRow : OpenClaim := { program := "ythnecccakeminaa", sum := "9702ce110abe50015781fa8472b1f180bcffcb20ba850509848671d781cd7679", func := "nocturn/nocturnlaw9.AdmitLeast", spec := "admitLeast", unfollowed := true, recurses := true, apart := false, narrowed := true }
def AdmitLeastUptoSaid : Prop := admitLeastUptoRow.holds Try.pinned (OpenSpec.upto admitLeastSpec)

/-- 'nocturnlaw9.AdmitAlone', WHERE WHAT IT READS IS OF BULK AT MOST 1048576: true; the input reads as it did. -/
def admitAloneUptoRow : OpenClaim := { program := "ythnecccakeminaa", sum := "9702ce110abe50015781fa8472b1f180bcffcb20ba850509848671d781cd7679", func := "nocturn/nocturnlaw9.AdmitAlone", spec := "admitAlone", unfollowed := true, recurses := true, apart := false, narrowed := true }
def AdmitAloneUptoSaid : Prop := admitAloneUptoRow.holds Try.pinned (OpenSpec.upto admitAloneSpec)

/-- 'nocturnlaw9.AdmitMore', WHERE WHAT IT READS IS OF BULK AT MOST 1048576: true; the input reads as it did. -/
def admitMoreUptoRow : OpenClaim := { program := "ythnecccakeminaa", sum := "9702ce110abe50015781fa8472b1f180bcffcb20ba850509848671d781cd7679", func := "nocturn/nocturnlaw9.AdmitMore", spec := "admitMore", unfollowed := true, recurses := true, apart := false, narrowed := true }
def AdmitMoreUptoSaid : Prop := admitMoreUptoRow.holds Try.pinned (OpenSpec.upto admitMoreSpec)

/-- 'nocturnlaw9.AdmitForms', WHERE WHAT IT READS IS OF BULK AT MOST 1048576: true; the input reads as it did. -/
def admitFormsUptoRow : OpenClaim := { program := "ythnecccakeminaa", sum := "9702ce110abe50015781fa8472b1f180bcffcb20ba850509848671d781cd7679", func := "nocturn/nocturnlaw9.AdmitForms", spec := "admitForms", unfollowed := true, recurses := true, apart := false, narrowed := true }
def AdmitFormsUptoSaid : Prop := admitFormsUptoRow.holds Try.pinned (OpenSpec.upto admitFormsSpec)

/-- 'nocturnlaw9.AdmitHigh', WHERE WHAT IT READS IS OF BULK AT MOST 1048576: true; the input reads as it did. -/
def admitHighUptoRow : OpenClaim := { program := "ythnecccakeminaa", sum := "9702ce110abe50015781fa8472b1f180bcffcb20ba850509848671d781cd7679", func := "nocturn/nocturnlaw9.AdmitHigh", spec := "admitHigh", unfollowed := true, recurses := true, apart := false, narrowed := true }
def AdmitHighUptoSaid : Prop := admitHighUptoRow.holds Try.pinned (OpenSpec.upto admitHighSpec)

end Rows
end Go.Proofs.Ythnecccakeminaa
