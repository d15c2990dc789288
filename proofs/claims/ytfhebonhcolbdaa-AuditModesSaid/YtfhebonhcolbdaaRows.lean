/-
  No cell of these rows narrows 'for every input' (looked for: loops, veiled, ifaces, maps, wideKeys, modest, calm, conditions, laid).
  DERIVED. THE GIVEN ROWS OF THIS SEAT. 4 by the template 'for every input the law returns true; each argument reads behind the call as it read before'; 0 by the template 'total and deterministic' (their statements: YtfhebonhcolbdaaTotals.lean).
  GIVEN WITH THE SEED: the statements are not yours to turn. If you find one false, say at which input.
  Laid BY PROGRAM, IN A SANDBOX (cutbox-rows.mjs): the forced cells as the released guide's own fill.sh prints them over the translation 16f3a1a5afd9bd96… (all of the seat's roots in one cut). By AI agents, Wed Nov 11 2026. No macro, syntax, notation, axiom, sorry.
-/
import Derived.Test.YtfhebonhcolbdaaChecked
import GoSem.Claim
import GoSem.ClaimJoined
import GoSem.ClaimMapViews
import Derived.JoinedTies
import Derived.KernelRfl
namespace Go.Proofs.Ytfhebonhcolbdaa
/- THE CELL 'sum', in the pinned program and in every row, IS THE sha256 OF THE DUMP (.gsa) THAT YtfhebonhcolbdaaProg.lean LOADS. Nothing in Lean hashes anything: it is a label: what it is worth is what the hold of that sum in a sandbox is worth. -/
noncomputable def Try.pinned : Pinned := { name := "ytfhebonhcolbdaa", sum := "16f3a1a5afd9bd966e8bc27b364b3f553e7d3c7f8928ac525f0258a654a40230", checked := Try.checked }
namespace Rows
def none {H : Type} : Left H := { results := [], args := [] }

/-- 'nocturnlaw24.Audits': WHATEVER THE INPUT: true; the input reads as it did. -/
def auditsSpec : ChangeSpec := { name := "audits", fn := fun _ => fun
  | [d1, d2] => { results := [.lit (.bool true)], args := [d1, d2] }
  | _ => none }
def auditsRow : OpenClaim := { program := "ytfhebonhcolbdaa", sum := "16f3a1a5afd9bd966e8bc27b364b3f553e7d3c7f8928ac525f0258a654a40230", func := "nocturn/nocturnlaw24.Audits", spec := "audits", unfollowed := true, recurses := true, apart := false }
def AuditsSaid : Prop := auditsRow.holds Try.pinned (OpenSpec.ofChange auditsSpec)

/-- ITS FALSE NEIGHBOUR: 'it returns false'. Refute it at one input. -/
def auditsWrong : ChangeSpec := { name := "audits", fn := fun _ => fun
  | [d1, d2] => { results := [.lit (.bool false)], args := [d1, d2] }
  | _ => none }
def AuditsWrongFalsely : Prop := auditsRow.holds Try.pinned (OpenSpec.ofChange auditsWrong)

/-- 'nocturnlaw24.AuditForms': WHATEVER THE INPUT: true; the input reads as it did. -/
def auditFormsSpec : ChangeSpec := { name := "auditForms", fn := fun _ => fun
  | [d1, d2] => { results := [.lit (.bool true)], args := [d1, d2] }
  | _ => none }
def auditFormsRow : OpenClaim := { program := "ytfhebonhcolbdaa", sum := "16f3a1a5afd9bd966e8bc27b364b3f553e7d3c7f8928ac525f0258a654a40230", func := "nocturn/nocturnlaw24.AuditForms", spec := "auditForms", unfollowed := true, recurses := true, apart := false }
def AuditFormsSaid : Prop := auditFormsRow.holds Try.pinned (OpenSpec.ofChange auditFormsSpec)

/-- ITS FALSE NEIGHBOUR: 'it returns false'. Refute it at one input. -/
def auditFormsWrong : ChangeSpec := { name := "auditForms", fn := fun _ => fun
  | [d1, d2] => { results := [.lit (.bool false)], args := [d1, d2] }
  | _ => none }
def AuditFormsWrongFalsely : Prop := auditFormsRow.holds Try.pinned (OpenSpec.ofChange auditFormsWrong)

/-- 'nocturnlaw24.AuditModes': WHATEVER THE INPUT: true; the input reads as it did. -/
def auditModesSpec : ChangeSpec := { name := "auditModes", fn := fun _ => fun
  | [d1, d2, d3, d4] => { results := [.lit (.bool true)], args := [d1, d2, d3, d4] }
  | _ => none }
def auditModesRow : OpenClaim := { program := "ytfhebonhcolbdaa", sum := "16f3a1a5afd9bd966e8bc27b364b3f553e7d3c7f8928ac525f0258a654a40230", func := "nocturn/nocturnlaw24.AuditModes", spec := "auditModes", unfollowed := true, recurses := true, apart := false }
def AuditModesSaid : Prop := auditModesRow.holds Try.pinned (OpenSpec.ofChange auditModesSpec)

/-- ITS FALSE NEIGHBOUR: 'it returns false'. Refute it at one input. -/
def auditModesWrong : ChangeSpec := { name := "auditModes", fn := fun _ => fun
  | [d1, d2, d3, d4] => { results := [.lit (.bool false)], args := [d1, d2, d3, d4] }
  | _ => none }
def AuditModesWrongFalsely : Prop := auditModesRow.holds Try.pinned (OpenSpec.ofChange auditModesWrong)

/-- 'nocturnlaw24.AuditShares': WHATEVER THE INPUT: true; the input reads as it did. -/
def auditSharesSpec : ChangeSpec := { name := "auditShares", fn := fun _ => fun
  | [d1, d2] => { results := [.lit (.bool true)], args := [d1, d2] }
  | _ => none }
def auditSharesRow : OpenClaim := { program := "ytfhebonhcolbdaa", sum := "16f3a1a5afd9bd966e8bc27b364b3f553e7d3c7f8928ac525f0258a654a40230", func := "nocturn/nocturnlaw24.AuditShares", spec := "auditShares", unfollowed := true, recurses := true, apart := false }
def AuditSharesSaid : Prop := auditSharesRow.holds Try.pinned (OpenSpec.ofChange auditSharesSpec)

/-- ITS FALSE NEIGHBOUR: 'it returns false'. Refute it at one input. -/
def auditSharesWrong : ChangeSpec := { name := "auditShares", fn := fun _ => fun
  | [d1, d2] => { results := [.lit (.bool false)], args := [d1, d2] }
  | _ => none }
def AuditSharesWrongFalsely : Prop := auditSharesRow.holds Try.pinned (OpenSpec.ofChange auditSharesWrong)

/- THE SECOND FORM. 'bulk': how many values and letters a reading holds, each counted each time it is reached (what is shared counts as often as it is met; a slice's spare places count too). A statement '..UptoSaid' is the law's where the arguments, and the package variables that the reading takes, are together of bulk at most 1048576: NARROWER than '..Said'. Prove '..Said' where nothing that the law and all that it calls make is longer than what came in: it says more and counts as full. Else prove '..UptoSaid'. A law counts once. -/
mutual
def uptoBulk {H : Type} : DataW H → Nat
  | .lit (.string bytes) => bytes.length + 1
  | .lit _ => 1
  | .nil => 1
  | .ptr d => uptoBulk d + 1
  | .slice elems spare => uptoBulkAll elems + uptoBulkAll spare + 1
  | .agg parts => uptoBulkAll parts + 1
  | .iface _ d => uptoBulk d + 1
  | .map entries => uptoBulkEntries entries + 1
  | .held _ => 1
def uptoBulkAll {H : Type} : List (DataW H) → Nat
  | [] => 0
  | d :: r => uptoBulk d + uptoBulkAll r
def uptoBulkEntries {H : Type} : List (Lit × DataW H) → Nat
  | [] => 0
  | x :: r => uptoBulkEntry x + uptoBulkEntries r
def uptoBulkEntry {H : Type} : Lit × DataW H → Nat
  | (.string bytes, d) => bytes.length + uptoBulk d + 1
  | (_, d) => uptoBulk d + 1
 end
def uptoSmall : (H : Type) → List (DataW H) → Bool := fun _ ds => decide (uptoBulkAll ds ≤ 1048576)
def OpenSpec.upto (s : _root_.Go.ChangeSpec) : _root_.Go.OpenSpec := { _root_.Go.OpenSpec.ofChange s with cond := some uptoSmall }

/-- 'nocturnlaw24.Audits', WHERE WHAT IT READS IS OF BULK AT MOST 1048576: true; the input reads as it did. -/
def auditsUptoRow : OpenClaim := { program := "ytfhebonhcolbdaa", sum := "16f3a1a5afd9bd966e8bc27b364b3f553e7d3c7f8928ac525f0258a654a40230", func := "nocturn/nocturnlaw24.Audits", spec := "audits", unfollowed := true, recurses := true, apart := false, narrowed := true }
def AuditsUptoSaid : Prop := auditsUptoRow.holds Try.pinned (OpenSpec.upto auditsSpec)

/-- 'nocturnlaw24.AuditForms', WHERE WHAT IT READS IS OF BULK AT MOST 1048576: true; the input reads as it did. -/
def auditFormsUptoRow : OpenClaim := { program := "ytfhebonhcolbdaa", sum := "16f3a1a5afd9bd966e8bc27b364b3f553e7d3c7f8928ac525f0258a654a40230", func := "nocturn/nocturnlaw24.AuditForms", spec := "auditForms", unfollowed := true, recurses := true, apart := false, narrowed := true }
def AuditFormsUptoSaid : Prop := auditFormsUptoRow.holds Try.pinned (OpenSpec.upto auditFormsSpec)

/-- 'nocturnlaw24.AuditModes', WHERE WHAT IT READS IS OF BULK AT MOST 1048576: true; the input reads as it did. -/
def auditModesUptoRow : OpenClaim := { program := "ytfhebonhcolbdaa", sum := "16f3a1a5afd9bd966e8bc27b364b3f553e7d3c7f8928ac525f0258a654a40230", func := "nocturn/nocturnlaw24.AuditModes", spec := "auditModes", unfollowed := true, recurses := true, apart := false, narrowed := true }
def AuditModesUptoSaid : Prop := auditModesUptoRow.holds Try.pinned (OpenSpec.upto auditModesSpec)

/-- 'nocturnlaw24.AuditShares', WHERE WHAT IT READS IS OF BULK AT MOST 1048576: true; the input reads as it did. -/
def auditSharesUptoRow : OpenClaim := { program := "ytfhebonhcolbdaa", sum := "16f3a1a5afd9bd966e8bc27b364b3f553e7d3c7f8928ac525f0258a654a40230", func := "nocturn/nocturnlaw24.AuditShares", spec := "auditShares", unfollowed := true, recurses := true, apart := false, narrowed := true }
def AuditSharesUptoSaid : Prop := auditSharesUptoRow.holds Try.pinned (OpenSpec.upto auditSharesSpec)

end Rows
end Go.Proofs.Ytfhebonhcolbdaa
