/- Several texts of this claim as one. -/
import Derived.Test.YtooeeiiiflfckaaGreatJobA
import Derived.Test.YtooeeiiiflfckaaGreatChkA
/- ready.job, one way a theorem. -/
set_option linter.unusedVariables false
set_option linter.unusedSimpArgs false
namespace Go.Proofs.YtooeeiiiflfckaaGreat
open Go.RowKit
set_option maxRecDepth 100000 in
set_option maxHeartbeats 1000000 in
theorem job_leaf2 (b o : Nat) (x : Job) (w : World) (hx : JobAt w b o x) (e0 : decide (0 <= x.prio) = true) (e1 : decide (x.prio <= 255) = true) (e2 : decide (0 <= x.release /\ x.release <= 1099511627776) = false) : Calls Tryz.prog 135 #[.pointer (some ⟨b, o, none⟩)] w fun e w' => e = .returned (.bool false) /\ ∃ m, w' = w.drewN m := by
 obtain ⟨y0, y1, y2, y3, y4, y5, y6⟩ := hx
 unfold IntAt at y0 y1 y2 y3 y4 y5 y6
 go_enter Tryz.func135, Tryz.ntmps135
 go_wp2_with fail
 simp only [List.append_eq, List.cons_append, List.nil_append]
 go_quiet (first | (go_at_call 35; exact Calls.quiet_of_same (clock_any _ _)) | (go_at_call 101; exact Calls.quiet_of_same (demandMay_any _ _)))
 go_wp2_with fail
 go_ret
 exact ⟨rfl, _, rfl⟩
set_option maxRecDepth 100000 in
set_option maxHeartbeats 1000000 in
theorem job_leaf3 (b o : Nat) (x : Job) (w : World) (hx : JobAt w b o x) (e0 : decide (0 <= x.prio) = true) (e1 : decide (x.prio <= 255) = true) (e2 : decide (0 <= x.release /\ x.release <= 1099511627776) = true) (e3 : decide (x.release < x.deadline) = false) : Calls Tryz.prog 135 #[.pointer (some ⟨b, o, none⟩)] w fun e w' => e = .returned (.bool false) /\ ∃ m, w' = w.drewN m := by
 obtain ⟨y0, y1, y2, y3, y4, y5, y6⟩ := hx
 unfold IntAt at y0 y1 y2 y3 y4 y5 y6
 go_enter Tryz.func135, Tryz.ntmps135
 go_wp2_with fail
 simp only [List.append_eq, List.cons_append, List.nil_append]
 go_quiet (first | (go_at_call 35; exact Calls.quiet_of_same (clock_any _ _)) | (go_at_call 101; exact Calls.quiet_of_same (demandMay_any _ _)))
 go_wp2_with fail
 go_ret
 exact ⟨rfl, _, rfl⟩
set_option maxRecDepth 100000 in
set_option maxHeartbeats 1000000 in
theorem job_leaf9 (b o : Nat) (x : Job) (w : World) (hx : JobAt w b o x) (e0 : decide (0 <= x.prio) = true) (e1 : decide (x.prio <= 255) = true) (e2 : decide (0 <= x.release /\ x.release <= 1099511627776) = true) (e3 : decide (x.release < x.deadline) = true) (e4 : decide (1 <= x.demand /\ x.demand <= 65535) = true) (e5 : decide (0 <= x.used) = true) (e6 : decide (x.used < x.demand) = true) (e7 : decide (0 <= x.task) = true) (e8 : decide (x.task < 6) = true) (e9 : decide (0 <= x.seq) = false) : Calls Tryz.prog 135 #[.pointer (some ⟨b, o, none⟩)] w fun e w' => e = .returned (.bool false) /\ ∃ m, w' = w.drewN m := by
 obtain ⟨y0, y1, y2, y3, y4, y5, y6⟩ := hx
 unfold IntAt at y0 y1 y2 y3 y4 y5 y6
 go_enter Tryz.func135, Tryz.ntmps135
 go_wp2_with fail
 simp only [List.append_eq, List.cons_append, List.nil_append]
 go_quiet (first | (go_at_call 35; exact Calls.quiet_of_same (clock_any _ _)) | (go_at_call 101; exact Calls.quiet_of_same (demandMay_any _ _)))
 go_wp2_with fail
 go_ret
 exact ⟨rfl, _, rfl⟩
end Go.Proofs.YtooeeiiiflfckaaGreat
/- ready.job, one way a theorem. -/
namespace Go.Proofs.YtooeeiiiflfckaaGreat
open Go.RowKit
set_option maxRecDepth 100000 in
set_option maxHeartbeats 1000000 in
theorem job_leaf4 (b o : Nat) (x : Job) (w : World) (hx : JobAt w b o x) (e0 : decide (0 <= x.prio) = true) (e1 : decide (x.prio <= 255) = true) (e2 : decide (0 <= x.release /\ x.release <= 1099511627776) = true) (e3 : decide (x.release < x.deadline) = true) (e4 : decide (1 <= x.demand /\ x.demand <= 65535) = false) : Calls Tryz.prog 135 #[.pointer (some ⟨b, o, none⟩)] w fun e w' => e = .returned (.bool false) /\ ∃ m, w' = w.drewN m := by
 obtain ⟨y0, y1, y2, y3, y4, y5, y6⟩ := hx
 unfold IntAt at y0 y1 y2 y3 y4 y5 y6
 go_enter Tryz.func135, Tryz.ntmps135
 go_wp2_with fail
 simp only [List.append_eq, List.cons_append, List.nil_append]
 go_quiet (first | (go_at_call 35; exact Calls.quiet_of_same (clock_any _ _)) | (go_at_call 101; exact Calls.quiet_of_same (demandMay_any _ _)))
 go_wp2_with fail
 go_ret
 exact ⟨rfl, _, rfl⟩
set_option maxRecDepth 100000 in
set_option maxHeartbeats 1000000 in
theorem job_leaf5 (b o : Nat) (x : Job) (w : World) (hx : JobAt w b o x) (e0 : decide (0 <= x.prio) = true) (e1 : decide (x.prio <= 255) = true) (e2 : decide (0 <= x.release /\ x.release <= 1099511627776) = true) (e3 : decide (x.release < x.deadline) = true) (e4 : decide (1 <= x.demand /\ x.demand <= 65535) = true) (e5 : decide (0 <= x.used) = false) : Calls Tryz.prog 135 #[.pointer (some ⟨b, o, none⟩)] w fun e w' => e = .returned (.bool false) /\ ∃ m, w' = w.drewN m := by
 obtain ⟨y0, y1, y2, y3, y4, y5, y6⟩ := hx
 unfold IntAt at y0 y1 y2 y3 y4 y5 y6
 go_enter Tryz.func135, Tryz.ntmps135
 go_wp2_with fail
 simp only [List.append_eq, List.cons_append, List.nil_append]
 go_quiet (first | (go_at_call 35; exact Calls.quiet_of_same (clock_any _ _)) | (go_at_call 101; exact Calls.quiet_of_same (demandMay_any _ _)))
 go_wp2_with fail
 go_ret
 exact ⟨rfl, _, rfl⟩
set_option maxRecDepth 100000 in
set_option maxHeartbeats 1000000 in
theorem job_leaf8 (b o : Nat) (x : Job) (w : World) (hx : JobAt w b o x) (e0 : decide (0 <= x.prio) = true) (e1 : decide (x.prio <= 255) = true) (e2 : decide (0 <= x.release /\ x.release <= 1099511627776) = true) (e3 : decide (x.release < x.deadline) = true) (e4 : decide (1 <= x.demand /\ x.demand <= 65535) = true) (e5 : decide (0 <= x.used) = true) (e6 : decide (x.used < x.demand) = true) (e7 : decide (0 <= x.task) = true) (e8 : decide (x.task < 6) = false) : Calls Tryz.prog 135 #[.pointer (some ⟨b, o, none⟩)] w fun e w' => e = .returned (.bool false) /\ ∃ m, w' = w.drewN m := by
 obtain ⟨y0, y1, y2, y3, y4, y5, y6⟩ := hx
 unfold IntAt at y0 y1 y2 y3 y4 y5 y6
 go_enter Tryz.func135, Tryz.ntmps135
 go_wp2_with fail
 simp only [List.append_eq, List.cons_append, List.nil_append]
 go_quiet (first | (go_at_call 35; exact Calls.quiet_of_same (clock_any _ _)) | (go_at_call 101; exact Calls.quiet_of_same (demandMay_any _ _)))
 go_wp2_with fail
 go_ret
 exact ⟨rfl, _, rfl⟩
end Go.Proofs.YtooeeiiiflfckaaGreat
/- ready.job, one way a theorem. -/
namespace Go.Proofs.YtooeeiiiflfckaaGreat
open Go.RowKit
set_option maxRecDepth 100000 in
set_option maxHeartbeats 1000000 in
theorem job_leaf6 (b o : Nat) (x : Job) (w : World) (hx : JobAt w b o x) (e0 : decide (0 <= x.prio) = true) (e1 : decide (x.prio <= 255) = true) (e2 : decide (0 <= x.release /\ x.release <= 1099511627776) = true) (e3 : decide (x.release < x.deadline) = true) (e4 : decide (1 <= x.demand /\ x.demand <= 65535) = true) (e5 : decide (0 <= x.used) = true) (e6 : decide (x.used < x.demand) = false) : Calls Tryz.prog 135 #[.pointer (some ⟨b, o, none⟩)] w fun e w' => e = .returned (.bool false) /\ ∃ m, w' = w.drewN m := by
 obtain ⟨y0, y1, y2, y3, y4, y5, y6⟩ := hx
 unfold IntAt at y0 y1 y2 y3 y4 y5 y6
 go_enter Tryz.func135, Tryz.ntmps135
 go_wp2_with fail
 simp only [List.append_eq, List.cons_append, List.nil_append]
 go_quiet (first | (go_at_call 35; exact Calls.quiet_of_same (clock_any _ _)) | (go_at_call 101; exact Calls.quiet_of_same (demandMay_any _ _)))
 go_wp2_with fail
 go_ret
 exact ⟨rfl, _, rfl⟩
set_option maxRecDepth 100000 in
set_option maxHeartbeats 1000000 in
theorem job_leaf7 (b o : Nat) (x : Job) (w : World) (hx : JobAt w b o x) (e0 : decide (0 <= x.prio) = true) (e1 : decide (x.prio <= 255) = true) (e2 : decide (0 <= x.release /\ x.release <= 1099511627776) = true) (e3 : decide (x.release < x.deadline) = true) (e4 : decide (1 <= x.demand /\ x.demand <= 65535) = true) (e5 : decide (0 <= x.used) = true) (e6 : decide (x.used < x.demand) = true) (e7 : decide (0 <= x.task) = false) : Calls Tryz.prog 135 #[.pointer (some ⟨b, o, none⟩)] w fun e w' => e = .returned (.bool false) /\ ∃ m, w' = w.drewN m := by
 obtain ⟨y0, y1, y2, y3, y4, y5, y6⟩ := hx
 unfold IntAt at y0 y1 y2 y3 y4 y5 y6
 go_enter Tryz.func135, Tryz.ntmps135
 go_wp2_with fail
 simp only [List.append_eq, List.cons_append, List.nil_append]
 go_quiet (first | (go_at_call 35; exact Calls.quiet_of_same (clock_any _ _)) | (go_at_call 101; exact Calls.quiet_of_same (demandMay_any _ _)))
 go_wp2_with fail
 go_ret
 exact ⟨rfl, _, rfl⟩
end Go.Proofs.YtooeeiiiflfckaaGreat
