/- package slack: may, some of its leaves. -/
import Derived.Test.YtooeeiiiflfckaaGreatSlk
set_option linter.unusedVariables false
set_option linter.unusedSimpArgs false
namespace Go.Proofs.YtooeeiiiflfckaaGreat
open Go.RowKit
set_option maxRecDepth 100000 in
set_option maxHeartbeats 4000000 in
theorem led_leaf3 (g : Nat) (xi xd xo xa : Int) (w : World) (x0 : w.cell? ⟨g, 0, none⟩ = some (.int .i64 xi)) (x1 : w.cell? ⟨g, 1, none⟩ = some (.int .i64 xd)) (x2 : w.cell? ⟨g, 2, none⟩ = some (.int .i64 xo)) (x3 : w.cell? ⟨g, 3, none⟩ = some (.int .i64 xa)) (q0 : ∀ W, Calls Tryz.prog 151 #[.int .i64 xi] W fun e w' => e = .returned (.bool true) /\ w' = W) (q1 : ∀ W, Calls Tryz.prog 151 #[.int .i64 xd] W fun e w' => e = .returned (.bool true) /\ w' = W) (q2 : ∀ W, Calls Tryz.prog 151 #[.int .i64 xo] W fun e w' => e = .returned (.bool true) /\ w' = W) (e3 : (xd + xo == xi) = false) (s0 : IntKind.i64.wrap (xd + xo) = xd + xo) : Calls Tryz.prog 138 #[.pointer (some ⟨g, 0, none⟩)] w fun e w' => e = .returned (.bool false) /\ ∃ m, w' = w.drewN m := by
 go_enter Tryz.func138, Tryz.ntmps138
 go_wp2_with fail
 go_quiet (first | (go_at_call 151; first | exact Calls.quiet_of_same (q0 _) | exact Calls.quiet_of_same (q1 _) | exact Calls.quiet_of_same (q2 _)))
 go_wp2_with fail
 go_ret
 exact ⟨rfl, _, rfl⟩
set_option maxRecDepth 100000 in
set_option maxHeartbeats 4000000 in
theorem led_leaf4 (g : Nat) (xi xd xo xa : Int) (w : World) (x0 : w.cell? ⟨g, 0, none⟩ = some (.int .i64 xi)) (x1 : w.cell? ⟨g, 1, none⟩ = some (.int .i64 xd)) (x2 : w.cell? ⟨g, 2, none⟩ = some (.int .i64 xo)) (x3 : w.cell? ⟨g, 3, none⟩ = some (.int .i64 xa)) (q0 : ∀ W, Calls Tryz.prog 151 #[.int .i64 xi] W fun e w' => e = .returned (.bool true) /\ w' = W) (q1 : ∀ W, Calls Tryz.prog 151 #[.int .i64 xd] W fun e w' => e = .returned (.bool true) /\ w' = W) (q2 : ∀ W, Calls Tryz.prog 151 #[.int .i64 xo] W fun e w' => e = .returned (.bool true) /\ w' = W) (e3 : (xd + xo == xi) = true) (e4 : (decide (xa >= -1)) = false) (s0 : IntKind.i64.wrap (xd + xo) = xd + xo) : Calls Tryz.prog 138 #[.pointer (some ⟨g, 0, none⟩)] w fun e w' => e = .returned (.bool false) /\ ∃ m, w' = w.drewN m := by
 go_enter Tryz.func138, Tryz.ntmps138
 go_wp2_with fail
 go_quiet (first | (go_at_call 151; first | exact Calls.quiet_of_same (q0 _) | exact Calls.quiet_of_same (q1 _) | exact Calls.quiet_of_same (q2 _)))
 go_wp2_with fail
 go_ret
 exact ⟨rfl, _, rfl⟩
end Go.Proofs.YtooeeiiiflfckaaGreat
