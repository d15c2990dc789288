/- KernelDeals, plainly: reckoned for each input. -/
import Derived.Test.YtooeeiiiflfckaaGreatRunP
set_option linter.unusedVariables false
set_option linter.unusedSimpArgs false
namespace Go.Proofs.YtooeeiiiflfckaaGreat
open Go.RowKit
def deCfg : Config := ⟨12, 1, [⟨1, [⟨1, 50, 50, 3, 5, 0⟩], []⟩, ⟨0, [⟨0, 12, 12, 12, 12, 0⟩], []⟩, ⟨0, [⟨0, 12, 12, 12, 12, 0⟩], []⟩], [⟨0, 10, 0⟩, ⟨10, 11, 1⟩, ⟨11, 12, 2⟩], []⟩
def deE (t d : Nat) (i : Nat) : List Entry := if i < 10 then [⟨t, 0, 0, 0, d⟩] else []
def deK (t d : Nat) : Nat -> KSt := runK (newK deCfg 0) (deE t d)
def deU (d : Nat) : Nat := min d 5
def deT (t d i : Nat) : Nat := if i <= t then 1 + i % 2 else if i < t + deU d then 1 + t % 2 else 1 + (i - deU d) % 2
def deOk (t d i : Nat) : Bool :=
 let r := tickK (deK t d i) (deE t d i)
 decide (tickE (deK t d i) (deE t d i) = 0) && decide (r.2.tick = i) &&
 (if t <= i /\ i < t + deU d then decide (r.2.owner = 0) && !r.2.dealt && decide ((r.2.mode = 1) ↔ (d > 3 /\ t + 2 <= i)) && decide (deT t d (i + 1) = deT t d i)
  else decide (r.2.owner = deT t d i) && r.2.dealt && decide (deT t d (i + 1) = 3 - deT t d i))
def deEnd (t d : Nat) : Bool :=
 let K := deK t d 10
 let r := tickK K []
 decide (K.led.idle = 10 - (deU d : Int)) && decide (K.led.dealt = K.led.idle) && decide (K.led.lost = 0) && decide (tickE K [] = 0) && decide (r.2.owner = if d > 3 then -1 else 1) && !r.2.dealt
theorem de_admit : admitSpec deCfg = 0 := by kernel_rfl
theorem de_all : (List.range 4).all (fun t => (List.range 8).all fun d => (List.range 10).all (fun i => deOk t (1 + d) i) && deEnd t (1 + d)) = true := by kernel_rfl
theorem de_ok {t d i : Nat} (ht : t < 4) (hd : 1 <= d /\ d <= 8) (hi : i < 10) : deOk t d i = true := by
 have h := all_range (all_range de_all ht) (i := d - 1) (by omega)
 rw [Bool.and_eq_true, show 1 + (d - 1) = d by omega] at h
 exact all_range h.1 hi
theorem de_end {t d : Nat} (ht : t < 4) (hd : 1 <= d /\ d <= 8) : deEnd t d = true := by
 have h := all_range (all_range de_all ht) (i := d - 1) (by omega)
 rw [Bool.and_eq_true, show 1 + (d - 1) = d by omega] at h
 exact h.2
theorem deT_le (t d i : Nat) : deT t d i <= 2 := by
 unfold deT
 repeat' split
 all_goals omega
end Go.Proofs.YtooeeiiiflfckaaGreat
