/-
  No cell of these rows narrows 'for every input' (looked for: loops, veiled, ifaces, maps, wideKeys, modest, calm, conditions, laid).
  DERIVED. THE GIVEN ROWS OF THIS SEAT. 7 by the template 'for every input the law returns true; each argument reads behind the call as it read before'; 0 by the template 'total and deterministic' (their statements: YtbkhnlacabaagaaTotals.lean).
  GIVEN WITH THE SEED: the statements are not yours to turn. If you find one false, say at which input.
  Laid BY PROGRAM, IN A SANDBOX (cutbox-rows.mjs): the forced cells as the released guide's own fill.sh prints them over the translation bd11229524c21754… (all of the seat's roots in one cut). By AI agents, Wed Nov 11 2026. No macro, syntax, notation, axiom, sorry.
-/
import Derived.Test.YtbkhnlacabaagaaChecked
import GoSem.Claim
import GoSem.ClaimJoined
import GoSem.ClaimMapViews
import Derived.JoinedTies
import Derived.KernelRfl
namespace Go.Proofs.Ytbkhnlacabaagaa
/- THE CELL 'sum', in the pinned program and in every row, IS THE sha256 OF THE DUMP (.gsa) THAT YtbkhnlacabaagaaProg.lean LOADS. Nothing in Lean hashes anything: it is a label: what it is worth is what the hold of that sum in a sandbox is worth. -/
noncomputable def Try.pinned : Pinned := { name := "ytbkhnlacabaagaa", sum := "bd11229524c21754b2f857a516b096df78df77f441a16e194bf8cdd5d716582e", checked := Try.checked }
namespace Rows
def none {H : Type} : Left H := { results := [], args := [] }

/-- 'nocturnlaw14.JobTicks': WHATEVER THE INPUT: true; the input reads as it did. -/
def jobTicksSpec : ChangeSpec := { name := "jobTicks", fn := fun _ => fun
  | [d1, d2, d3] => { results := [.lit (.bool true)], args := [d1, d2, d3] }
  | _ => none }
def jobTicksRow : OpenClaim := { program := "ytbkhnlacabaagaa", sum := "bd11229524c21754b2f857a516b096df78df77f441a16e194bf8cdd5d716582e", func := "nocturn/nocturnlaw14.JobTicks", spec := "jobTicks", inPlace := ["slices.overlaps[nocturn/api.Job]"], unfollowed := true, recurses := true, apart := false }
def JobTicksSaid : Prop := jobTicksRow.holds Try.pinned (OpenSpec.ofChange jobTicksSpec)

/-- ITS FALSE NEIGHBOUR: 'it returns false'. Refute it at one input. -/
def jobTicksWrong : ChangeSpec := { name := "jobTicks", fn := fun _ => fun
  | [d1, d2, d3] => { results := [.lit (.bool false)], args := [d1, d2, d3] }
  | _ => none }
def JobTicksWrongFalsely : Prop := jobTicksRow.holds Try.pinned (OpenSpec.ofChange jobTicksWrong)

/-- 'nocturnlaw14.JobOrder': WHATEVER THE INPUT: true; the input reads as it did. -/
def jobOrderSpec : ChangeSpec := { name := "jobOrder", fn := fun _ => fun
  | [d1, d2] => { results := [.lit (.bool true)], args := [d1, d2] }
  | _ => none }
def jobOrderRow : OpenClaim := { program := "ytbkhnlacabaagaa", sum := "bd11229524c21754b2f857a516b096df78df77f441a16e194bf8cdd5d716582e", func := "nocturn/nocturnlaw14.JobOrder", spec := "jobOrder", inPlace := ["slices.overlaps[nocturn/api.Job]"], unfollowed := true, recurses := true, apart := false }
def JobOrderSaid : Prop := jobOrderRow.holds Try.pinned (OpenSpec.ofChange jobOrderSpec)

/-- ITS FALSE NEIGHBOUR: 'it returns false'. Refute it at one input. -/
def jobOrderWrong : ChangeSpec := { name := "jobOrder", fn := fun _ => fun
  | [d1, d2] => { results := [.lit (.bool false)], args := [d1, d2] }
  | _ => none }
def JobOrderWrongFalsely : Prop := jobOrderRow.holds Try.pinned (OpenSpec.ofChange jobOrderWrong)

/-- 'nocturnlaw14.JobForms': WHATEVER THE INPUT: true; the input reads as it did. -/
def jobFormsSpec : ChangeSpec := { name := "jobForms", fn := fun _ => fun
  | [d1, d2] => { results := [.lit (.bool true)], args := [d1, d2] }
  | _ => none }
def jobFormsRow : OpenClaim := { program := "ytbkhnlacabaagaa", sum := "bd11229524c21754b2f857a516b096df78df77f441a16e194bf8cdd5d716582e", func := "nocturn/nocturnlaw14.JobForms", spec := "jobForms", inPlace := ["slices.overlaps[nocturn/api.Job]"], unfollowed := true, recurses := true, apart := false }
def JobFormsSaid : Prop := jobFormsRow.holds Try.pinned (OpenSpec.ofChange jobFormsSpec)

/-- ITS FALSE NEIGHBOUR: 'it returns false'. Refute it at one input. -/
def jobFormsWrong : ChangeSpec := { name := "jobForms", fn := fun _ => fun
  | [d1, d2] => { results := [.lit (.bool false)], args := [d1, d2] }
  | _ => none }
def JobFormsWrongFalsely : Prop := jobFormsRow.holds Try.pinned (OpenSpec.ofChange jobFormsWrong)

/-- 'nocturnlaw14.JobMissed': WHATEVER THE INPUT: true; the input reads as it did. -/
def jobMissedSpec : ChangeSpec := { name := "jobMissed", fn := fun _ => fun
  | [d1, d2, d3, d4] => { results := [.lit (.bool true)], args := [d1, d2, d3, d4] }
  | _ => none }
def jobMissedRow : OpenClaim := { program := "ytbkhnlacabaagaa", sum := "bd11229524c21754b2f857a516b096df78df77f441a16e194bf8cdd5d716582e", func := "nocturn/nocturnlaw14.JobMissed", spec := "jobMissed", inPlace := ["slices.overlaps[nocturn/api.Job]"], unfollowed := true, recurses := true, apart := false }
def JobMissedSaid : Prop := jobMissedRow.holds Try.pinned (OpenSpec.ofChange jobMissedSpec)

/-- ITS FALSE NEIGHBOUR: 'it returns false'. Refute it at one input. -/
def jobMissedWrong : ChangeSpec := { name := "jobMissed", fn := fun _ => fun
  | [d1, d2, d3, d4] => { results := [.lit (.bool false)], args := [d1, d2, d3, d4] }
  | _ => none }
def JobMissedWrongFalsely : Prop := jobMissedRow.holds Try.pinned (OpenSpec.ofChange jobMissedWrong)

/-- 'nocturnlaw14.JobDemands': WHATEVER THE INPUT: true; the input reads as it did. -/
def jobDemandsSpec : ChangeSpec := { name := "jobDemands", fn := fun _ => fun
  | [d1, d2] => { results := [.lit (.bool true)], args := [d1, d2] }
  | _ => none }
def jobDemandsRow : OpenClaim := { program := "ytbkhnlacabaagaa", sum := "bd11229524c21754b2f857a516b096df78df77f441a16e194bf8cdd5d716582e", func := "nocturn/nocturnlaw14.JobDemands", spec := "jobDemands", inPlace := ["slices.overlaps[nocturn/api.Job]"], unfollowed := true, recurses := true, apart := false }
def JobDemandsSaid : Prop := jobDemandsRow.holds Try.pinned (OpenSpec.ofChange jobDemandsSpec)

/-- ITS FALSE NEIGHBOUR: 'it returns false'. Refute it at one input. -/
def jobDemandsWrong : ChangeSpec := { name := "jobDemands", fn := fun _ => fun
  | [d1, d2] => { results := [.lit (.bool false)], args := [d1, d2] }
  | _ => none }
def JobDemandsWrongFalsely : Prop := jobDemandsRow.holds Try.pinned (OpenSpec.ofChange jobDemandsWrong)

/-- 'nocturnlaw14.JobActs': WHATEVER THE INPUT: true; the input reads as it did. -/
def jobActsSpec : ChangeSpec := { name := "jobActs", fn := fun _ => fun
  | [d1, d2, d3] => { results := [.lit (.bool true)], args := [d1, d2, d3] }
  | _ => none }
def jobActsRow : OpenClaim := { program := "ytbkhnlacabaagaa", sum := "bd11229524c21754b2f857a516b096df78df77f441a16e194bf8cdd5d716582e", func := "nocturn/nocturnlaw14.JobActs", spec := "jobActs", inPlace := ["slices.overlaps[nocturn/api.Job]"], unfollowed := true, recurses := true, apart := false }
def JobActsSaid : Prop := jobActsRow.holds Try.pinned (OpenSpec.ofChange jobActsSpec)

/-- ITS FALSE NEIGHBOUR: 'it returns false'. Refute it at one input. -/
def jobActsWrong : ChangeSpec := { name := "jobActs", fn := fun _ => fun
  | [d1, d2, d3] => { results := [.lit (.bool false)], args := [d1, d2, d3] }
  | _ => none }
def JobActsWrongFalsely : Prop := jobActsRow.holds Try.pinned (OpenSpec.ofChange jobActsWrong)

/-- 'nocturnlaw14.JobKills': WHATEVER THE INPUT: true; the input reads as it did. -/
def jobKillsSpec : ChangeSpec := { name := "jobKills", fn := fun _ => fun
  | [d1, d2, d3, d4] => { results := [.lit (.bool true)], args := [d1, d2, d3, d4] }
  | _ => none }
def jobKillsRow : OpenClaim := { program := "ytbkhnlacabaagaa", sum := "bd11229524c21754b2f857a516b096df78df77f441a16e194bf8cdd5d716582e", func := "nocturn/nocturnlaw14.JobKills", spec := "jobKills", inPlace := ["slices.overlaps[nocturn/api.Job]"], unfollowed := true, recurses := true, apart := false }
def JobKillsSaid : Prop := jobKillsRow.holds Try.pinned (OpenSpec.ofChange jobKillsSpec)

/-- ITS FALSE NEIGHBOUR: 'it returns false'. Refute it at one input. -/
def jobKillsWrong : ChangeSpec := { name := "jobKills", fn := fun _ => fun
  | [d1, d2, d3, d4] => { results := [.lit (.bool false)], args := [d1, d2, d3, d4] }
  | _ => none }
def JobKillsWrongFalsely : Prop := jobKillsRow.holds Try.pinned (OpenSpec.ofChange jobKillsWrong)

/- THE SECOND FORM. 'bulk': how many values and letters a reading holds, each counted each time it is reached (what is shared counts as often as it is met; a slice's spare places count too). A statement '..UptoSaid' is the law's where the arguments, and the package variables that the reading takes, are together of bulk at most 1048576: NARROWER than '..Said'. Prove '..Said' where nothing that the law and all that it calls make is longer than what came in: it says more and counts as full. Else prove '..UptoSaid'. A law counts once. -/
mutual
def uptoBulk {H : Type} : DataW H → Nat
  | .lit (.string bytes) => bytes.length + 1
  | .lit _ => 1
  | .nil => 1
  | .ptr d => uptoBulk d + 1
  | .slice elems spare => uptoBulkAll elems + uptoBulkAll spare + 1
  | .agg parts => uptoBulkAll parts + 1
  | .iface _ d => uptoBulk d + 1
  | .map entries => uptoBulkEntries entries + 1
  | .held _ => 1
def uptoBulkAll {H : Type} : List (DataW H) → Nat
  | [] => 0
  | d :: r => uptoBulk d + uptoBulkAll r
def uptoBulkEntries {H : Type} : List (Lit × DataW H) → Nat
  | [] => 0
  | x :: r => uptoBulkEntry x + uptoBulkEntries r
def uptoBulkEntry {H : Type} : Lit × DataW H → Nat
  | (.string bytes, d) => bytes.length + uptoBulk d + 1
  | (_, d) => uptoBulk d + 1
 end
def uptoSmall : (H : Type) → List (DataW H) → Bool := fun _ ds => decide (uptoBulkAll ds ≤ 1048576)
def OpenSpec.upto (s : _root_.Go.ChangeSpec) : _root_.Go.OpenSpec := { _root_.Go.OpenSpec.ofChange s with cond := some uptoSmall }

/-- 'nocturnlaw14.JobTicks', WHERE WHAT IT READS IS OF BULK AT MOST 1048576: true; the input reads as it did. -/
def jobTicksUptoRow : OpenClaim := { program := "ytbkhnlacabaagaa", sum := "bd11229524c21754b2f857a516b096df78df77f441a16e194bf8cdd5d716582e", func := "nocturn/nocturnlaw14.JobTicks", spec := "jobTicks", inPlace := ["slices.overlaps[nocturn/api.Job]"], unfollowed := true, recurses := true, apart := false, narrowed := true }
def JobTicksUptoSaid : Prop := jobTicksUptoRow.holds Try.pinned (OpenSpec.upto jobTicksSpec)

/-- 'nocturnlaw14.JobOrder', WHERE WHAT IT READS IS OF BULK AT MOST 1048576: true; the input reads as it did. -/
def jobOrderUptoRow : OpenClaim := { program := "ytbkhnlacabaagaa", sum := "bd11229524c21754b2f857a516b096df78df77f441a16e194bf8cdd5d716582e", func := "nocturn/nocturnlaw14.JobOrder", spec := "jobOrder", inPlace := ["slices.overlaps[nocturn/api.Job]"], unfollowed := true, recurses := true, apart := false, narrowed := true }
def JobOrderUptoSaid : Prop := jobOrderUptoRow.holds Try.pinned (OpenSpec.upto jobOrderSpec)

/-- 'nocturnlaw14.JobForms', WHERE WHAT IT READS IS OF BULK AT MOST 1048576: true; the input reads as it did. -/
def jobFormsUptoRow : OpenClaim := { program := "ytbkhnlacabaagaa", sum := "bd11229524c21754b2f857a516b096df78df77f441a16e194bf8cdd5d716582e", func := "nocturn/nocturnlaw14.JobForms", spec := "jobForms", inPlace := ["slices.overlaps[nocturn/api.Job]"], unfollowed := true, recurses := true, apart := false, narrowed := true }
def JobFormsUptoSaid : Prop := jobFormsUptoRow.holds Try.pinned (OpenSpec.upto jobFormsSpec)

/-- 'nocturnlaw14.JobMissed', WHERE WHAT IT READS IS OF BULK AT MOST 1048576: true; the input reads as it did. -/
def jobMissedUptoRow : OpenClaim := { program := "ytbkhnlacabaagaa", sum := "bd11229524c21754b2f857a516b096df78df77f441a16e194bf8cdd5d716582e", func := "nocturn/nocturnlaw14.JobMissed", spec := "jobMissed", inPlace := ["slices.overlaps[nocturn/api.Job]"], unfollowed := true, recurses := true, apart := false, narrowed := true }
def JobMissedUptoSaid : Prop := jobMissedUptoRow.holds Try.pinned (OpenSpec.upto jobMissedSpec)

/-- 'nocturnlaw14.JobDemands', WHERE WHAT IT READS IS OF BULK AT MOST 1048576: true; the input reads as it did. -/
def jobDemandsUptoRow : OpenClaim := { program := "ytbkhnlacabaagaa", sum := "bd11229524c21754b2f857a516b096df78df77f441a16e194bf8cdd5d716582e", func := "nocturn/nocturnlaw14.JobDemands", spec := "jobDemands", inPlace := ["slices.overlaps[nocturn/api.Job]"], unfollowed := true, recurses := true, apart := false, narrowed := true }
def JobDemandsUptoSaid : Prop := jobDemandsUptoRow.holds Try.pinned (OpenSpec.upto jobDemandsSpec)

/-- 'nocturnlaw14.JobActs', WHERE WHAT IT READS IS OF BULK AT MOST 1048576: true; the input reads as it did. -/
def jobActsUptoRow : OpenClaim := { program := "ytbkhnlacabaagaa", sum := "bd11229524c21754b2f857a516b096df78df77f441a16e194bf8cdd5d716582e", func := "nocturn/nocturnlaw14.JobActs", spec := "jobActs", inPlace := ["slices.overlaps[nocturn/api.Job]"], unfollowed := true, recurses := true, apart := false, narrowed := true }
def JobActsUptoSaid : Prop := jobActsUptoRow.holds Try.pinned (OpenSpec.upto jobActsSpec)

/-- 'nocturnlaw14.JobKills', WHERE WHAT IT READS IS OF BULK AT MOST 1048576: true; the input reads as it did. -/
def jobKillsUptoRow : OpenClaim := { program := "ytbkhnlacabaagaa", sum := "bd11229524c21754b2f857a516b096df78df77f441a16e194bf8cdd5d716582e", func := "nocturn/nocturnlaw14.JobKills", spec := "jobKills", inPlace := ["slices.overlaps[nocturn/api.Job]"], unfollowed := true, recurses := true, apart := false, narrowed := true }
def JobKillsUptoSaid : Prop := jobKillsUptoRow.holds Try.pinned (OpenSpec.upto jobKillsSpec)

end Rows
end Go.Proofs.Ytbkhnlacabaagaa
