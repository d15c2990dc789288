/- packages pvm, slack, mode, plainly: as the program does it. -/
import Derived.Test.YtooeeiiiflfckaaGreatChkA
import Derived.Test.YtooeeiiiflfckaaGreatPrtA
set_option linter.unusedVariables false
set_option linter.unusedSimpArgs false
namespace Go.Proofs.YtooeeiiiflfckaaGreat
open Go.RowKit
structure Vm where
 pc : Int
 acc : Int
 mem : List Int
structure Eff where
 took : Bool
 write : Int
 get : Int
 value : Int
 fault : Bool
def word (x : Int) : Bool := decide (0 <= x /\ x < 4294967296)
def zeroVm : Vm := ⟨0, 0, List.replicate 16 0⟩
def zeroEff : Eff := ⟨false, 0, 0, 0, false⟩
def noEff : Eff := ⟨false, -1, -1, 0, false⟩
def vmMay (p : List Instr) (v : Vm) : Bool := decide (0 <= v.pc /\ v.pc < (max p.length 1 : Nat)) && word v.acc && v.mem.all word
def aroundMay (inw outs : Int) (gets : List Int) : Bool := word inw && decide (0 <= outs /\ outs <= 255 /\ gets.length <= 8) && gets.all (fun x => decide (x = -1) || word x)
def reckon (v : Vm) (i : Instr) : Vm :=
 if i.op = 1 then { v with acc := i.arg }
 else if i.op = 2 then { v with acc := v.mem.getD i.arg.toNat 0 }
 else if i.op = 3 then { v with mem := v.mem.set i.arg.toNat v.acc }
 else if i.op = 4 then { v with acc := (v.acc + v.mem.getD i.arg.toNat 0) % 4294967296 }
 else if i.op = 5 then { v with acc := (v.acc - v.mem.getD i.arg.toNat 0) % 4294967296 }
 else v
def leap (v : Vm) (i : Instr) : Vm :=
 if i.op = 6 ∨ i.op = 7 /\ v.acc = 0 then { v with pc := i.arg } else if i.op = 11 then { v with pc := 0 } else v
def faultOf (v : Vm) : Vm × Eff := ({ v with pc := 0, acc := 0 }, { noEff with fault := true })
def reach (v : Vm) (inw outs : Int) (gets : List Int) (i : Instr) : Vm × Eff :=
 if i.op = 8 then ({ v with acc := inw }, { noEff with took := true })
 else if i.op = 9 then
  if (outs / 2 ^ i.arg.toNat) % 2 = 0 then faultOf v else (v, { noEff with write := i.arg, value := v.acc })
 else if i.op = 10 then
  if (gets.length : Int) <= i.arg ∨ gets.getD i.arg.toNat (-1) = -1 then faultOf v else ({ v with acc := gets.getD i.arg.toNat 0 }, { noEff with get := i.arg })
 else (v, noEff)
def stepV (p : List Instr) (v : Vm) (inw outs : Int) (gets : List Int) : Vm × Eff × Int :=
 if (codeMay p && vmMay p v && aroundMay inw outs gets) = false then (zeroVm, zeroEff, 1000)
 else if p.length = 0 then (v, noEff, 0)
 else
  let i := p.getD v.pc.toNat ⟨0, 0⟩
  let r := reach (leap (reckon { v with pc := (v.pc + 1) % p.length } i) i) inw outs gets i
  (r.1, r.2, 0)
structure Led where
 idle : Int
 dealt : Int
 lost : Int
 last : Int
def countMay (x : Int) : Bool := decide (0 <= x /\ x <= 1099511627776)
def ledMay (l : Led) : Bool := countMay l.idle && countMay l.dealt && countMay l.lost && decide (l.dealt + l.lost = l.idle /\ -1 <= l.last /\ l.last < 8)
def risingFrom : Int -> List Int -> Bool
 | _, [] => true
 | a, p :: r => decide (0 <= p /\ p < 8 /\ a < p) && risingFrom p r
def turnOf (last : Int) (ps : List Int) : Int := ((ps.find? (fun p => decide (last < p))).getD (ps.headD (-1)))
def dealL (l : Led) (high : Bool) (ps : List Int) : Led × Int :=
 if (ledMay l && !decide (l.idle = 1099511627776) && risingFrom (-1) ps) = false then (⟨0, 0, 0, 0⟩, 0)
 else
  let who := turnOf l.last ps
  let l1 := if 0 <= who then { l with last := who } else l
  if high = true /\ 0 <= who then ({ l1 with idle := l1.idle + 1, dealt := l1.dealt + 1 }, who)
  else if high = true then ({ l1 with idle := l1.idle + 1, lost := l1.lost + 1 }, who)
  else (l1, who)
structure Mod where
 level : Int
 quiet : Int
 loud : Bool
def boundM (m : Mod) (quiet : Int) (backlog : Bool) : Mod :=
 if ¬ ((m.level = 0 ∨ m.level = 1) /\ 0 <= m.quiet /\ m.quiet <= 16) ∨ quiet < 1 ∨ 16 < quiet then ⟨0, 0, false⟩
 else if m.level = 0 ∨ m.loud = true ∨ backlog = true then ⟨m.level, 0, false⟩
 else if quiet <= m.quiet + 1 then ⟨0, 0, false⟩ else ⟨1, m.quiet + 1, false⟩
def overM : Mod := ⟨1, 0, true⟩
end Go.Proofs.YtooeeiiiflfckaaGreat
