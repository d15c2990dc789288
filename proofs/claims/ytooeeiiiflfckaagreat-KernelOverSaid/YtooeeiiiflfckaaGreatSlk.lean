/- package slack: count, may (leaf by leaf). -/
import Derived.Test.YtooeeiiiflfckaaGreatVmD
import Derived.Test.YtooeeiiiflfckaaGreatLibA
import Derived.Test.YtooeeiiiflfckaaGreatTskA
set_option linter.unusedVariables false
set_option linter.unusedSimpArgs false
namespace Go.Proofs.YtooeeiiiflfckaaGreat
open Go.RowKit
theorem count_any (x : Int) (w : World) : Calls Tryz.prog 151 #[.int .i64 x] w fun e w' => e = .returned (.bool (countMay x)) /\ w' = w := by
 go_enter Tryz.func151, Tryz.ntmps151
 by_cases h : x >= 0
 ·have h' : decide (x >= 0) = true := decide_eq_true h
  go_wp2_with fail
  go_ret
  exact ⟨ret_bool (by unfold countMay; simp [show (0 : Int) <= x from h]), rfl⟩
 ·have h' : decide (x >= 0) = false := decide_eq_false h
  go_wp2_with fail
  go_ret
  exact ⟨ret_bool (by unfold countMay; simp; omega), rfl⟩
theorem count_lit {x : Int} {b : Bool} (h : countMay x = b) : ∀ W, Calls Tryz.prog 151 #[.int .i64 x] W fun e w' => e = .returned (.bool b) /\ w' = W := fun W => by
 rw [<- h]
 exact count_any x W
set_option maxRecDepth 100000 in
set_option maxHeartbeats 4000000 in
theorem led_leaf0 (g : Nat) (xi xd xo xa : Int) (w : World) (x0 : w.cell? ⟨g, 0, none⟩ = some (.int .i64 xi)) (x1 : w.cell? ⟨g, 1, none⟩ = some (.int .i64 xd)) (x2 : w.cell? ⟨g, 2, none⟩ = some (.int .i64 xo)) (x3 : w.cell? ⟨g, 3, none⟩ = some (.int .i64 xa)) (q0 : ∀ W, Calls Tryz.prog 151 #[.int .i64 xi] W fun e w' => e = .returned (.bool false) /\ w' = W) : Calls Tryz.prog 138 #[.pointer (some ⟨g, 0, none⟩)] w fun e w' => e = .returned (.bool false) /\ ∃ m, w' = w.drewN m := by
 go_enter Tryz.func138, Tryz.ntmps138
 go_wp2_with fail
 go_quiet (first | (go_at_call 151; first | exact Calls.quiet_of_same (q0 _)))
 go_wp2_with fail
 go_ret
 exact ⟨rfl, _, rfl⟩
set_option maxRecDepth 100000 in
set_option maxHeartbeats 4000000 in
theorem led_leaf1 (g : Nat) (xi xd xo xa : Int) (w : World) (x0 : w.cell? ⟨g, 0, none⟩ = some (.int .i64 xi)) (x1 : w.cell? ⟨g, 1, none⟩ = some (.int .i64 xd)) (x2 : w.cell? ⟨g, 2, none⟩ = some (.int .i64 xo)) (x3 : w.cell? ⟨g, 3, none⟩ = some (.int .i64 xa)) (q0 : ∀ W, Calls Tryz.prog 151 #[.int .i64 xi] W fun e w' => e = .returned (.bool true) /\ w' = W) (q1 : ∀ W, Calls Tryz.prog 151 #[.int .i64 xd] W fun e w' => e = .returned (.bool false) /\ w' = W) : Calls Tryz.prog 138 #[.pointer (some ⟨g, 0, none⟩)] w fun e w' => e = .returned (.bool false) /\ ∃ m, w' = w.drewN m := by
 go_enter Tryz.func138, Tryz.ntmps138
 go_wp2_with fail
 go_quiet (first | (go_at_call 151; first | exact Calls.quiet_of_same (q0 _) | exact Calls.quiet_of_same (q1 _)))
 go_wp2_with fail
 go_ret
 exact ⟨rfl, _, rfl⟩
set_option maxRecDepth 100000 in
set_option maxHeartbeats 4000000 in
theorem led_leaf2 (g : Nat) (xi xd xo xa : Int) (w : World) (x0 : w.cell? ⟨g, 0, none⟩ = some (.int .i64 xi)) (x1 : w.cell? ⟨g, 1, none⟩ = some (.int .i64 xd)) (x2 : w.cell? ⟨g, 2, none⟩ = some (.int .i64 xo)) (x3 : w.cell? ⟨g, 3, none⟩ = some (.int .i64 xa)) (q0 : ∀ W, Calls Tryz.prog 151 #[.int .i64 xi] W fun e w' => e = .returned (.bool true) /\ w' = W) (q1 : ∀ W, Calls Tryz.prog 151 #[.int .i64 xd] W fun e w' => e = .returned (.bool true) /\ w' = W) (q2 : ∀ W, Calls Tryz.prog 151 #[.int .i64 xo] W fun e w' => e = .returned (.bool false) /\ w' = W) : Calls Tryz.prog 138 #[.pointer (some ⟨g, 0, none⟩)] w fun e w' => e = .returned (.bool false) /\ ∃ m, w' = w.drewN m := by
 go_enter Tryz.func138, Tryz.ntmps138
 go_wp2_with fail
 go_quiet (first | (go_at_call 151; first | exact Calls.quiet_of_same (q0 _) | exact Calls.quiet_of_same (q1 _) | exact Calls.quiet_of_same (q2 _)))
 go_wp2_with fail
 go_ret
 exact ⟨rfl, _, rfl⟩
end Go.Proofs.YtooeeiiiflfckaaGreat
