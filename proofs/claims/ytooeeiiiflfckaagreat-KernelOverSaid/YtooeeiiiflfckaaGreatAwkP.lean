/- chapter 22's awake, plainly. -/
import Derived.Test.YtooeeiiiflfckaaGreatKbX
import Derived.Test.YtooeeiiiflfckaaGreatAdmA
import Derived.Test.YtooeeiiiflfckaaGreatEvA
set_option linter.unusedVariables false
set_option linter.unusedSimpArgs false
namespace Go.Proofs.YtooeeiiiflfckaaGreat
open Go.RowKit
def zeroCfg : Config := ⟨0, 0, [], [], []⟩
theorem plain_admit : admitSpec plainCfg = 0 := by kernel_rfl
theorem zero_admit : admitSpec zeroCfg = 501 := by kernel_rfl
def awE : List Entry := [⟨0, 0, 0, 0, 3⟩, ⟨0, 0, 1, 0, 2⟩]
def awK1 : KSt := (tickK (newK plainCfg 0) awE).1
def awK2 : KSt := (tickK awK1 []).1
def awK3 : KSt := (tickK awK2 []).1
def awK4 : KSt := (tickK awK3 []).1
theorem aw_e0 : tickE (newK plainCfg 0) awE = 0 := by kernel_rfl
theorem aw_e1 : tickE awK1 [] = 0 := by kernel_rfl
theorem aw_e2 : tickE awK2 [] = 0 := by kernel_rfl
theorem aw_e3 : tickE awK3 [] = 0 := by kernel_rfl
theorem aw_r1 : tickK (newK plainCfg 0) awE = (awK1, ⟨0, 0, false, 0, [⟨1, 0, 0, 3⟩, ⟨1, 1, 0, 2⟩]⟩) := by kernel_rfl
theorem aw_r2 : tickK awK1 [] = (awK2, ⟨1, 0, false, 1, [⟨8, 0, 0, 7⟩, ⟨4, 0, 0, 2⟩, ⟨0, -1, -1, 1⟩]⟩) := by kernel_rfl
theorem aw_r3 : tickK awK2 [] = (awK3, ⟨2, 0, false, 1, (tickK awK2 []).2.events⟩) := by kernel_rfl
theorem aw_r4 : tickK awK3 [] = (awK4, ⟨3, 1, true, 1, (tickK awK3 []).2.events⟩) := by kernel_rfl
theorem aw_vm : (awK2.seat 0).vm.acc = 7 /\ (awK2.seat 0).vm.pc = 0 /\ awK2.seats.length = 2 := ⟨by kernel_rfl, by kernel_rfl, by kernel_rfl⟩
theorem aw_end : awK4.now = 4 /\ awK4.led.dealt = 1 /\ awK4.mode.level = 1 /\ (awK4.seat 1).loc.js.length = 1 /\ awK4.seats.length = 2 := ⟨by kernel_rfl, by kernel_rfl, by kernel_rfl, by kernel_rfl, by kernel_rfl⟩
end Go.Proofs.YtooeeiiiflfckaaGreat
