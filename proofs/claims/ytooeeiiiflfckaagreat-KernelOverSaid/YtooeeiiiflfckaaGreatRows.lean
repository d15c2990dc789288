/-
  No cell of these rows narrows 'for every input' (looked for: loops, veiled, ifaces, maps, wideKeys, modest, calm, conditions, laid).
  DERIVED. THE GIVEN ROWS OF THIS SEAT. 11 by the template 'for every input the law returns true; each argument reads behind the call as it read before'; 0 by the template 'total and deterministic' (their statements: YtooeeiiiflfckaaGreatTotals.lean).
  GIVEN WITH THE SEED: the statements are not yours to turn. If you find one false, say at which input.
  Laid BY PROGRAM, IN A SANDBOX (cutbox-rows.mjs): the forced cells as the released guide's own fill.sh prints them over the translation 47d56c4eed870b85… (all of the seat's roots in one cut). By AI agents, Wed Nov 11 2026. No macro, syntax, notation, axiom, sorry.
-/
import Derived.Test.YtooeeiiiflfckaaGreatChecked
import GoSem.Claim
import GoSem.ClaimJoined
import GoSem.ClaimMapViews
import Derived.JoinedTies
import Derived.KernelRfl
namespace Go.Proofs.YtooeeiiiflfckaaGreat
/- THE CELL 'sum', in the pinned program and in every row, IS THE sha256 OF THE DUMP (.gsa) THAT YtooeeiiiflfckaaGreatProg.lean LOADS. Nothing in Lean hashes anything: it is a label: what it is worth is what the hold of that sum in a sandbox is worth. -/
noncomputable def Tryz.pinned : Pinned := { name := "ytooeeiiiflfckaagreat", sum := "47d56c4eed870b85208f17d2cf1f497d68e756bb4e5733bfa00a070b4e6d6483", checked := Tryz.checked }
namespace Rows
def none {H : Type} : Left H := { results := [], args := [] }

/-- 'nocturnlaw22.KernelInTime': WHATEVER THE INPUT: true; the input reads as it did. -/
def kernelInTimeSpec : ChangeSpec := { name := "kernelInTime", fn := fun _ => fun
  | [d1, d2, d3] => { results := [.lit (.bool true)], args := [d1, d2, d3] }
  | _ => none }
def kernelInTimeRow : OpenClaim := { program := "ytooeeiiiflfckaagreat", sum := "47d56c4eed870b85208f17d2cf1f497d68e756bb4e5733bfa00a070b4e6d6483", func := "nocturn/nocturnlaw22.KernelInTime", spec := "kernelInTime", inPlace := ["slices.overlaps[nocturn/api.Job]"], unfollowed := true, recurses := true, apart := false }
def KernelInTimeSaid : Prop := kernelInTimeRow.holds Tryz.pinned (OpenSpec.ofChange kernelInTimeSpec)

/-- ITS FALSE NEIGHBOUR: 'it returns false'. Refute it at one input. -/
def kernelInTimeWrong : ChangeSpec := { name := "kernelInTime", fn := fun _ => fun
  | [d1, d2, d3] => { results := [.lit (.bool false)], args := [d1, d2, d3] }
  | _ => none }
def KernelInTimeWrongFalsely : Prop := kernelInTimeRow.holds Tryz.pinned (OpenSpec.ofChange kernelInTimeWrong)

/-- 'nocturnlaw22.KernelClock': WHATEVER THE INPUT: true; the input reads as it did. -/
def kernelClockSpec : ChangeSpec := { name := "kernelClock", fn := fun _ => fun
  | [d1, d2] => { results := [.lit (.bool true)], args := [d1, d2] }
  | _ => none }
def kernelClockRow : OpenClaim := { program := "ytooeeiiiflfckaagreat", sum := "47d56c4eed870b85208f17d2cf1f497d68e756bb4e5733bfa00a070b4e6d6483", func := "nocturn/nocturnlaw22.KernelClock", spec := "kernelClock", inPlace := ["slices.overlaps[nocturn/api.Job]"], unfollowed := true, recurses := true, apart := false }
def KernelClockSaid : Prop := kernelClockRow.holds Tryz.pinned (OpenSpec.ofChange kernelClockSpec)

/-- ITS FALSE NEIGHBOUR: 'it returns false'. Refute it at one input. -/
def kernelClockWrong : ChangeSpec := { name := "kernelClock", fn := fun _ => fun
  | [d1, d2] => { results := [.lit (.bool false)], args := [d1, d2] }
  | _ => none }
def KernelClockWrongFalsely : Prop := kernelClockRow.holds Tryz.pinned (OpenSpec.ofChange kernelClockWrong)

/-- 'nocturnlaw22.KernelNoops': WHATEVER THE INPUT: true; the input reads as it did. -/
def kernelNoopsSpec : ChangeSpec := { name := "kernelNoops", fn := fun _ => fun
  | [d1, d2, d3] => { results := [.lit (.bool true)], args := [d1, d2, d3] }
  | _ => none }
def kernelNoopsRow : OpenClaim := { program := "ytooeeiiiflfckaagreat", sum := "47d56c4eed870b85208f17d2cf1f497d68e756bb4e5733bfa00a070b4e6d6483", func := "nocturn/nocturnlaw22.KernelNoops", spec := "kernelNoops", inPlace := ["slices.overlaps[nocturn/api.Job]"], unfollowed := true, recurses := true, apart := false }
def KernelNoopsSaid : Prop := kernelNoopsRow.holds Tryz.pinned (OpenSpec.ofChange kernelNoopsSpec)

/-- ITS FALSE NEIGHBOUR: 'it returns false'. Refute it at one input. -/
def kernelNoopsWrong : ChangeSpec := { name := "kernelNoops", fn := fun _ => fun
  | [d1, d2, d3] => { results := [.lit (.bool false)], args := [d1, d2, d3] }
  | _ => none }
def KernelNoopsWrongFalsely : Prop := kernelNoopsRow.holds Tryz.pinned (OpenSpec.ofChange kernelNoopsWrong)

/-- 'nocturnlaw22.KernelDeals': WHATEVER THE INPUT: true; the input reads as it did. -/
def kernelDealsSpec : ChangeSpec := { name := "kernelDeals", fn := fun _ => fun
  | [d1, d2] => { results := [.lit (.bool true)], args := [d1, d2] }
  | _ => none }
def kernelDealsRow : OpenClaim := { program := "ytooeeiiiflfckaagreat", sum := "47d56c4eed870b85208f17d2cf1f497d68e756bb4e5733bfa00a070b4e6d6483", func := "nocturn/nocturnlaw22.KernelDeals", spec := "kernelDeals", inPlace := ["slices.overlaps[nocturn/api.Job]"], unfollowed := true, recurses := true, apart := false }
def KernelDealsSaid : Prop := kernelDealsRow.holds Tryz.pinned (OpenSpec.ofChange kernelDealsSpec)

/-- ITS FALSE NEIGHBOUR: 'it returns false'. Refute it at one input. -/
def kernelDealsWrong : ChangeSpec := { name := "kernelDeals", fn := fun _ => fun
  | [d1, d2] => { results := [.lit (.bool false)], args := [d1, d2] }
  | _ => none }
def KernelDealsWrongFalsely : Prop := kernelDealsRow.holds Tryz.pinned (OpenSpec.ofChange kernelDealsWrong)

/-- 'nocturnlaw22.KernelFaults': WHATEVER THE INPUT: true; the input reads as it did. -/
def kernelFaultsSpec : ChangeSpec := { name := "kernelFaults", fn := fun _ => fun
  | [d1, d2] => { results := [.lit (.bool true)], args := [d1, d2] }
  | _ => none }
def kernelFaultsRow : OpenClaim := { program := "ytooeeiiiflfckaagreat", sum := "47d56c4eed870b85208f17d2cf1f497d68e756bb4e5733bfa00a070b4e6d6483", func := "nocturn/nocturnlaw22.KernelFaults", spec := "kernelFaults", inPlace := ["slices.overlaps[nocturn/api.Job]"], unfollowed := true, recurses := true, apart := false }
def KernelFaultsSaid : Prop := kernelFaultsRow.holds Tryz.pinned (OpenSpec.ofChange kernelFaultsSpec)

/-- ITS FALSE NEIGHBOUR: 'it returns false'. Refute it at one input. -/
def kernelFaultsWrong : ChangeSpec := { name := "kernelFaults", fn := fun _ => fun
  | [d1, d2] => { results := [.lit (.bool false)], args := [d1, d2] }
  | _ => none }
def KernelFaultsWrongFalsely : Prop := kernelFaultsRow.holds Tryz.pinned (OpenSpec.ofChange kernelFaultsWrong)

/-- 'nocturnlaw22.KernelInputs': WHATEVER THE INPUT: true; the input reads as it did. -/
def kernelInputsSpec : ChangeSpec := { name := "kernelInputs", fn := fun _ => fun
  | [d] => { results := [.lit (.bool true)], args := [d] }
  | _ => none }
def kernelInputsRow : OpenClaim := { program := "ytooeeiiiflfckaagreat", sum := "47d56c4eed870b85208f17d2cf1f497d68e756bb4e5733bfa00a070b4e6d6483", func := "nocturn/nocturnlaw22.KernelInputs", spec := "kernelInputs", inPlace := ["slices.overlaps[nocturn/api.Job]"], unfollowed := true, recurses := true, apart := false }
def KernelInputsSaid : Prop := kernelInputsRow.holds Tryz.pinned (OpenSpec.ofChange kernelInputsSpec)

/-- ITS FALSE NEIGHBOUR: 'it returns false'. Refute it at one input. -/
def kernelInputsWrong : ChangeSpec := { name := "kernelInputs", fn := fun _ => fun
  | [d] => { results := [.lit (.bool false)], args := [d] }
  | _ => none }
def KernelInputsWrongFalsely : Prop := kernelInputsRow.holds Tryz.pinned (OpenSpec.ofChange kernelInputsWrong)

/-- 'nocturnlaw22.KernelOver': WHATEVER THE INPUT: true; the input reads as it did. -/
def kernelOverSpec : ChangeSpec := { name := "kernelOver", fn := fun _ => fun
  | [d1, d2, d3] => { results := [.lit (.bool true)], args := [d1, d2, d3] }
  | _ => none }
def kernelOverRow : OpenClaim := { program := "ytooeeiiiflfckaagreat", sum := "47d56c4eed870b85208f17d2cf1f497d68e756bb4e5733bfa00a070b4e6d6483", func := "nocturn/nocturnlaw22.KernelOver", spec := "kernelOver", inPlace := ["slices.overlaps[nocturn/api.Job]"], unfollowed := true, recurses := true, apart := false }
def KernelOverSaid : Prop := kernelOverRow.holds Tryz.pinned (OpenSpec.ofChange kernelOverSpec)

/-- ITS FALSE NEIGHBOUR: 'it returns false'. Refute it at one input. -/
def kernelOverWrong : ChangeSpec := { name := "kernelOver", fn := fun _ => fun
  | [d1, d2, d3] => { results := [.lit (.bool false)], args := [d1, d2, d3] }
  | _ => none }
def KernelOverWrongFalsely : Prop := kernelOverRow.holds Tryz.pinned (OpenSpec.ofChange kernelOverWrong)

/-- 'nocturnlaw22.KernelBack': WHATEVER THE INPUT: true; the input reads as it did. -/
def kernelBackSpec : ChangeSpec := { name := "kernelBack", fn := fun _ => fun
  | [d1, d2, d3] => { results := [.lit (.bool true)], args := [d1, d2, d3] }
  | _ => none }
def kernelBackRow : OpenClaim := { program := "ytooeeiiiflfckaagreat", sum := "47d56c4eed870b85208f17d2cf1f497d68e756bb4e5733bfa00a070b4e6d6483", func := "nocturn/nocturnlaw22.KernelBack", spec := "kernelBack", inPlace := ["slices.overlaps[nocturn/api.Job]"], unfollowed := true, recurses := true, apart := false }
def KernelBackSaid : Prop := kernelBackRow.holds Tryz.pinned (OpenSpec.ofChange kernelBackSpec)

/-- ITS FALSE NEIGHBOUR: 'it returns false'. Refute it at one input. -/
def kernelBackWrong : ChangeSpec := { name := "kernelBack", fn := fun _ => fun
  | [d1, d2, d3] => { results := [.lit (.bool false)], args := [d1, d2, d3] }
  | _ => none }
def KernelBackWrongFalsely : Prop := kernelBackRow.holds Tryz.pinned (OpenSpec.ofChange kernelBackWrong)

/-- 'nocturnlaw22.KernelShares': WHATEVER THE INPUT: true; the input reads as it did. -/
def kernelSharesSpec : ChangeSpec := { name := "kernelShares", fn := fun _ => fun
  | [d1, d2, d3] => { results := [.lit (.bool true)], args := [d1, d2, d3] }
  | _ => none }
def kernelSharesRow : OpenClaim := { program := "ytooeeiiiflfckaagreat", sum := "47d56c4eed870b85208f17d2cf1f497d68e756bb4e5733bfa00a070b4e6d6483", func := "nocturn/nocturnlaw22.KernelShares", spec := "kernelShares", inPlace := ["slices.overlaps[nocturn/api.Job]"], unfollowed := true, recurses := true, apart := false }
def KernelSharesSaid : Prop := kernelSharesRow.holds Tryz.pinned (OpenSpec.ofChange kernelSharesSpec)

/-- ITS FALSE NEIGHBOUR: 'it returns false'. Refute it at one input. -/
def kernelSharesWrong : ChangeSpec := { name := "kernelShares", fn := fun _ => fun
  | [d1, d2, d3] => { results := [.lit (.bool false)], args := [d1, d2, d3] }
  | _ => none }
def KernelSharesWrongFalsely : Prop := kernelSharesRow.holds Tryz.pinned (OpenSpec.ofChange kernelSharesWrong)

/-- 'nocturnlaw22.KernelTwo': WHATEVER THE INPUT: true; the input reads as it did. -/
def kernelTwoSpec : ChangeSpec := { name := "kernelTwo", fn := fun _ => fun
  | [d1, d2, d3] => { results := [.lit (.bool true)], args := [d1, d2, d3] }
  | _ => none }
def kernelTwoRow : OpenClaim := { program := "ytooeeiiiflfckaagreat", sum := "47d56c4eed870b85208f17d2cf1f497d68e756bb4e5733bfa00a070b4e6d6483", func := "nocturn/nocturnlaw22.KernelTwo", spec := "kernelTwo", inPlace := ["slices.overlaps[nocturn/api.Job]"], unfollowed := true, recurses := true, apart := false }
def KernelTwoSaid : Prop := kernelTwoRow.holds Tryz.pinned (OpenSpec.ofChange kernelTwoSpec)

/-- ITS FALSE NEIGHBOUR: 'it returns false'. Refute it at one input. -/
def kernelTwoWrong : ChangeSpec := { name := "kernelTwo", fn := fun _ => fun
  | [d1, d2, d3] => { results := [.lit (.bool false)], args := [d1, d2, d3] }
  | _ => none }
def KernelTwoWrongFalsely : Prop := kernelTwoRow.holds Tryz.pinned (OpenSpec.ofChange kernelTwoWrong)

/-- 'nocturnlaw22.KernelShift': WHATEVER THE INPUT: true; the input reads as it did. -/
def kernelShiftSpec : ChangeSpec := { name := "kernelShift", fn := fun _ => fun
  | [d1, d2] => { results := [.lit (.bool true)], args := [d1, d2] }
  | _ => none }
def kernelShiftRow : OpenClaim := { program := "ytooeeiiiflfckaagreat", sum := "47d56c4eed870b85208f17d2cf1f497d68e756bb4e5733bfa00a070b4e6d6483", func := "nocturn/nocturnlaw22.KernelShift", spec := "kernelShift", inPlace := ["slices.overlaps[nocturn/api.Job]"], unfollowed := true, recurses := true, apart := false }
def KernelShiftSaid : Prop := kernelShiftRow.holds Tryz.pinned (OpenSpec.ofChange kernelShiftSpec)

/-- ITS FALSE NEIGHBOUR: 'it returns false'. Refute it at one input. -/
def kernelShiftWrong : ChangeSpec := { name := "kernelShift", fn := fun _ => fun
  | [d1, d2] => { results := [.lit (.bool false)], args := [d1, d2] }
  | _ => none }
def KernelShiftWrongFalsely : Prop := kernelShiftRow.holds Tryz.pinned (OpenSpec.ofChange kernelShiftWrong)

/- THE SECOND FORM. 'bulk': how many values and letters a reading holds, each counted each time it is reached (what is shared counts as often as it is met; a slice's spare places count too). A statement '..UptoSaid' is the law's where the arguments, and the package variables that the reading takes, are together of bulk at most 1048576: NARROWER than '..Said'. Prove '..Said' where nothing that the law and all that it calls make is longer than what came in: it says more and counts as full. Else prove '..UptoSaid'. A law counts once. -/
mutual
def uptoBulk {H : Type} : DataW H → Nat
  | .lit (.string bytes) => bytes.length + 1
  | .lit _ => 1
  | .nil => 1
  | .ptr d => uptoBulk d + 1
  | .slice elems spare => uptoBulkAll elems + uptoBulkAll spare + 1
  | .agg parts => uptoBulkAll parts + 1
  | .iface _ d => uptoBulk d + 1
  | .map entries => uptoBulkEntries entries + 1
  | .held _ => 1
def uptoBulkAll {H : Type} : List (DataW H) → Nat
  | [] => 0
  | d :: r => uptoBulk d + uptoBulkAll r
def uptoBulkEntries {H : Type} : List (Lit × DataW H) → Nat
  | [] => 0
  | x :: r => uptoBulkEntry x + uptoBulkEntries r
def uptoBulkEntry {H : Type} : Lit × DataW H → Nat
  | (.string bytes, d) => bytes.length + uptoBulk d + 1
  | (_, d) => uptoBulk d + 1
 end
def uptoSmall : (H : Type) → List (DataW H) → Bool := fun _ ds => decide (uptoBulkAll ds ≤ 1048576)
def OpenSpec.upto (s : _root_.Go.ChangeSpec) : _root_.Go.OpenSpec := { _root_.Go.OpenSpec.ofChange s with cond := some uptoSmall }

/-- 'nocturnlaw22.KernelInTime', WHERE WHAT IT READS IS OF BULK AT MOST 1048576: true; the input reads as it did. -/
def kernelInTimeUptoRow : OpenClaim := { program := "ytooeeiiiflfckaagreat", sum := "47d56c4eed870b85208f17d2cf1f497d68e756bb4e5733bfa00a070b4e6d6483", func := "nocturn/nocturnlaw22.KernelInTime", spec := "kernelInTime", inPlace := ["slices.overlaps[nocturn/api.Job]"], unfollowed := true, recurses := true, apart := false, narrowed := true }
def KernelInTimeUptoSaid : Prop := kernelInTimeUptoRow.holds Tryz.pinned (OpenSpec.upto kernelInTimeSpec)

/-- 'nocturnlaw22.KernelClock', WHERE WHAT IT READS IS OF BULK AT MOST 1048576: true; the input reads as it did. -/
def kernelClockUptoRow : OpenClaim := { program := "ytooeeiiiflfckaagreat", sum := "47d56c4eed870b85208f17d2cf1f497d68e756bb4e5733bfa00a070b4e6d6483", func := "nocturn/nocturnlaw22.KernelClock", spec := "kernelClock", inPlace := ["slices.overlaps[nocturn/api.Job]"], unfollowed := true, recurses := true, apart := false, narrowed := true }
def KernelClockUptoSaid : Prop := kernelClockUptoRow.holds Tryz.pinned (OpenSpec.upto kernelClockSpec)

/-- 'nocturnlaw22.KernelNoops', WHERE WHAT IT READS IS OF BULK AT MOST 1048576: true; the input reads as it did. -/
def kernelNoopsUptoRow : OpenClaim := { program := "ytooeeiiiflfckaagreat", sum := "47d56c4eed870b85208f17d2cf1f497d68e756bb4e5733bfa00a070b4e6d6483", func := "nocturn/nocturnlaw22.KernelNoops", spec := "kernelNoops", inPlace := ["slices.overlaps[nocturn/api.Job]"], unfollowed := true, recurses := true, apart := false, narrowed := true }
def KernelNoopsUptoSaid : Prop := kernelNoopsUptoRow.holds Tryz.pinned (OpenSpec.upto kernelNoopsSpec)

/-- 'nocturnlaw22.KernelDeals', WHERE WHAT IT READS IS OF BULK AT MOST 1048576: true; the input reads as it did. -/
def kernelDealsUptoRow : OpenClaim := { program := "ytooeeiiiflfckaagreat", sum := "47d56c4eed870b85208f17d2cf1f497d68e756bb4e5733bfa00a070b4e6d6483", func := "nocturn/nocturnlaw22.KernelDeals", spec := "kernelDeals", inPlace := ["slices.overlaps[nocturn/api.Job]"], unfollowed := true, recurses := true, apart := false, narrowed := true }
def KernelDealsUptoSaid : Prop := kernelDealsUptoRow.holds Tryz.pinned (OpenSpec.upto kernelDealsSpec)

/-- 'nocturnlaw22.KernelFaults', WHERE WHAT IT READS IS OF BULK AT MOST 1048576: true; the input reads as it did. -/
def kernelFaultsUptoRow : OpenClaim := { program := "ytooeeiiiflfckaagreat", sum := "47d56c4eed870b85208f17d2cf1f497d68e756bb4e5733bfa00a070b4e6d6483", func := "nocturn/nocturnlaw22.KernelFaults", spec := "kernelFaults", inPlace := ["slices.overlaps[nocturn/api.Job]"], unfollowed := true, recurses := true, apart := false, narrowed := true }
def KernelFaultsUptoSaid : Prop := kernelFaultsUptoRow.holds Tryz.pinned (OpenSpec.upto kernelFaultsSpec)

/-- 'nocturnlaw22.KernelInputs', WHERE WHAT IT READS IS OF BULK AT MOST 1048576: true; the input reads as it did. -/
def kernelInputsUptoRow : OpenClaim := { program := "ytooeeiiiflfckaagreat", sum := "47d56c4eed870b85208f17d2cf1f497d68e756bb4e5733bfa00a070b4e6d6483", func := "nocturn/nocturnlaw22.KernelInputs", spec := "kernelInputs", inPlace := ["slices.overlaps[nocturn/api.Job]"], unfollowed := true, recurses := true, apart := false, narrowed := true }
def KernelInputsUptoSaid : Prop := kernelInputsUptoRow.holds Tryz.pinned (OpenSpec.upto kernelInputsSpec)

/-- 'nocturnlaw22.KernelOver', WHERE WHAT IT READS IS OF BULK AT MOST 1048576: true; the input reads as it did. -/
def kernelOverUptoRow : OpenClaim := { program := "ytooeeiiiflfckaagreat", sum := "47d56c4eed870b85208f17d2cf1f497d68e756bb4e5733bfa00a070b4e6d6483", func := "nocturn/nocturnlaw22.KernelOver", spec := "kernelOver", inPlace := ["slices.overlaps[nocturn/api.Job]"], unfollowed := true, recurses := true, apart := false, narrowed := true }
def KernelOverUptoSaid : Prop := kernelOverUptoRow.holds Tryz.pinned (OpenSpec.upto kernelOverSpec)

/-- 'nocturnlaw22.KernelBack', WHERE WHAT IT READS IS OF BULK AT MOST 1048576: true; the input reads as it did. -/
def kernelBackUptoRow : OpenClaim := { program := "ytooeeiiiflfckaagreat", sum := "47d56c4eed870b85208f17d2cf1f497d68e756bb4e5733bfa00a070b4e6d6483", func := "nocturn/nocturnlaw22.KernelBack", spec := "kernelBack", inPlace := ["slices.overlaps[nocturn/api.Job]"], unfollowed := true, recurses := true, apart := false, narrowed := true }
def KernelBackUptoSaid : Prop := kernelBackUptoRow.holds Tryz.pinned (OpenSpec.upto kernelBackSpec)

/-- 'nocturnlaw22.KernelShares', WHERE WHAT IT READS IS OF BULK AT MOST 1048576: true; the input reads as it did. -/
def kernelSharesUptoRow : OpenClaim := { program := "ytooeeiiiflfckaagreat", sum := "47d56c4eed870b85208f17d2cf1f497d68e756bb4e5733bfa00a070b4e6d6483", func := "nocturn/nocturnlaw22.KernelShares", spec := "kernelShares", inPlace := ["slices.overlaps[nocturn/api.Job]"], unfollowed := true, recurses := true, apart := false, narrowed := true }
def KernelSharesUptoSaid : Prop := kernelSharesUptoRow.holds Tryz.pinned (OpenSpec.upto kernelSharesSpec)

/-- 'nocturnlaw22.KernelTwo', WHERE WHAT IT READS IS OF BULK AT MOST 1048576: true; the input reads as it did. -/
def kernelTwoUptoRow : OpenClaim := { program := "ytooeeiiiflfckaagreat", sum := "47d56c4eed870b85208f17d2cf1f497d68e756bb4e5733bfa00a070b4e6d6483", func := "nocturn/nocturnlaw22.KernelTwo", spec := "kernelTwo", inPlace := ["slices.overlaps[nocturn/api.Job]"], unfollowed := true, recurses := true, apart := false, narrowed := true }
def KernelTwoUptoSaid : Prop := kernelTwoUptoRow.holds Tryz.pinned (OpenSpec.upto kernelTwoSpec)

/-- 'nocturnlaw22.KernelShift', WHERE WHAT IT READS IS OF BULK AT MOST 1048576: true; the input reads as it did. -/
def kernelShiftUptoRow : OpenClaim := { program := "ytooeeiiiflfckaagreat", sum := "47d56c4eed870b85208f17d2cf1f497d68e756bb4e5733bfa00a070b4e6d6483", func := "nocturn/nocturnlaw22.KernelShift", spec := "kernelShift", inPlace := ["slices.overlaps[nocturn/api.Job]"], unfollowed := true, recurses := true, apart := false, narrowed := true }
def KernelShiftUptoSaid : Prop := kernelShiftUptoRow.holds Tryz.pinned (OpenSpec.upto kernelShiftSpec)

end Rows
end Go.Proofs.YtooeeiiiflfckaaGreat
