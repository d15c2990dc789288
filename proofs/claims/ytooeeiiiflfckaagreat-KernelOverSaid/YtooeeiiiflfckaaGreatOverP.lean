/- KernelOver, plainly: reckoned for each input. -/
import Derived.Test.YtooeeiiiflfckaaGreatOneP
set_option linter.unusedVariables false
set_option linter.unusedSimpArgs false
namespace Go.Proofs.YtooeeiiiflfckaaGreat
open Go.RowKit
def ovCfg (b : Nat) : Config := oneCfg 30 1 b 8 20 20
def ovE (t d : Nat) : List Entry := [⟨t, 0, 0, 0, d⟩]
def ovK (b t d : Nat) : Nat -> KSt := runK (newK (ovCfg b) 0) (fun _ => ovE t d)
def evMany (es : List Event) : Nat := (es.filter (fun e => decide (e.kind = 4) || decide (e.kind = 0))).length
def ovOk (b t d i : Nat) : Bool :=
 let r := tickK (ovK b t d i) (ovE t d)
 decide (tickE (ovK b t d i) (ovE t d) = 0) && decide (r.2.mode = if b < d /\ t + b <= i + 1 then 1 else 0) && decide (evMany r.2.events = if b < d /\ i + 1 = t + b then 2 else 0)
def ovAll (b t d : Nat) : Bool := (List.range 29).all (ovOk b t d)
theorem ov_admit1 : admitSpec (ovCfg 1) = 0 := by kernel_rfl
theorem ov_admit2 : admitSpec (ovCfg 2) = 0 := by kernel_rfl
theorem ov_admit3 : admitSpec (ovCfg 3) = 0 := by kernel_rfl
theorem ov_admit4 : admitSpec (ovCfg 4) = 0 := by kernel_rfl
theorem ov_1 : (List.range 8).all (fun t => (List.range 8).all fun d => ovAll 1 t (1 + d)) = true := by kernel_rfl
theorem ov_2 : (List.range 8).all (fun t => (List.range 8).all fun d => ovAll 2 t (1 + d)) = true := by kernel_rfl
theorem ov_3 : (List.range 8).all (fun t => (List.range 8).all fun d => ovAll 3 t (1 + d)) = true := by kernel_rfl
theorem ov_4 : (List.range 8).all (fun t => (List.range 8).all fun d => ovAll 4 t (1 + d)) = true := by kernel_rfl
theorem ov_ok {b t d i : Nat} (hb : 1 <= b /\ b <= 4) (ht : t < 8) (hd : 1 <= d /\ d <= 8) (hi : i < 29) : ovOk b t d i = true := by
 have h : ovAll b t d = true := by
  have e : 1 + (d - 1) = d := by omega
  have hb2 : b = 1 ∨ b = 2 ∨ b = 3 ∨ b = 4 := by omega
  rcases hb2 with rfl | rfl | rfl | rfl
  ·have := all_range (all_range ov_1 ht) (i := d - 1) (by omega); rwa [e] at this
  ·have := all_range (all_range ov_2 ht) (i := d - 1) (by omega); rwa [e] at this
  ·have := all_range (all_range ov_3 ht) (i := d - 1) (by omega); rwa [e] at this
  ·have := all_range (all_range ov_4 ht) (i := d - 1) (by omega); rwa [e] at this
 exact all_range h hi
theorem ov_admit {b : Nat} (hb : 1 <= b /\ b <= 4) : admitSpec (ovCfg b) = 0 := by
 have hb2 : b = 1 ∨ b = 2 ∨ b = 3 ∨ b = 4 := by omega
 rcases hb2 with rfl | rfl | rfl | rfl
 ·exact ov_admit1
 ·exact ov_admit2
 ·exact ov_admit3
 ·exact ov_admit4
end Go.Proofs.YtooeeiiiflfckaaGreat
