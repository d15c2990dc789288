/- May a job be, may jobs be: both packages. -/
import Derived.Test.YtpjmceiegogobaaJobL1
import Derived.Test.YtpjmceiegogobaaJobL2
import Derived.Test.YtpjmceiegogobaaJobL3
import Derived.Test.YtpjmceiegogobaaJobL4
set_option linter.unusedVariables false
set_option linter.unusedSimpArgs false
namespace Go.Proofs.Ytpjmceiegogobaa
open Go.RowKit

def jz : Job := ⟨0, 0, 0, 0, 0, 0, 0⟩
def okAt (js : List Job) (i : Nat) : Bool := jobMay (js.getD i jz) && (decide (i = 0) || ahead (js.getD (i - 1) jz) (js.getD i jz))
def jobsMay (js : List Job) : Bool := (List.range js.length).all (okAt js) && decide (js.length ≤ 16)
theorem jobsMay_no {js : List Job} {k : Nat} (hk : k < js.length) (h : okAt js k = false) : jobsMay js = false := by
  unfold jobsMay
  rw [Bool.and_eq_false_iff]
  left
  rw [List.all_eq_false]
  exact ⟨k, by simpa using hk, by simp [h]⟩
theorem jobsMay_yes {js : List Job} (h : ∀ i, i < js.length → okAt js i = true) : jobsMay js = decide (js.length ≤ 16) := by
  unfold jobsMay
  rw [show (List.range js.length).all (okAt js) = true by rw [List.all_eq_true]; intro i hi; exact h i (by simpa using hi)]
  simp
theorem getD_at {js : List Job} {k : Nat} (hk : k < js.length) : js.getD k jz = js[k] := by
  simp [List.getD, List.getElem?_eq_getElem hk]
theorem okAt_job {js : List Job} {k : Nat} (hk : k < js.length) (h : jobMay js[k] = false) : okAt js k = false := by
  unfold okAt
  rw [getD_at hk, h]
  rfl
theorem okAt_first {js : List Job} (hk : 0 < js.length) (h : jobMay js[0] = true) : okAt js 0 = true := by
  unfold okAt
  rw [getD_at hk, h]
  rfl
theorem okAt_next {js : List Job} {k : Nat} (hk : k + 1 < js.length) (h : jobMay js[k + 1] = true) : okAt js (k + 1) = ahead js[k] js[k + 1] := by
  unfold okAt
  rw [getD_at hk, h, Nat.add_sub_cancel, getD_at (by omega)]
  simp
theorem ok_snoc {js : List Job} {k : Nat} (h : ∀ i, i < k → okAt js i = true) (hk : okAt js k = true) : ∀ i, i < k + 1 → okAt js i = true := by
  intro i hi
  rcases Nat.lt_succ_iff_lt_or_eq.1 hi with h' | rfl
  · exact h i h'
  · exact hk
set_option maxRecDepth 100000 in
set_option maxHeartbeats 1000000 in
theorem job_any (b o : Nat) (x : Job) (w : World) (hx : JobAt w b o x) : Calls Try.prog 25 #[.pointer (some ⟨b, o, none⟩)] w fun e w' => e = .returned (.bool (jobMay x)) ∧ ∃ m, w' = w.drewN m := by
  by_cases c0 : ¬ (0 ≤ x.prio)
  · rw [show jobMay x = false by unfold jobMay; simp <;> omega]
    exact job_leaf0 b o x w hx (decide_eq_false c0)
  have e0 : decide (0 ≤ x.prio) = true := decide_eq_true (Decidable.not_not.1 c0)
  by_cases c1 : ¬ (x.prio ≤ 255)
  · rw [show jobMay x = false by unfold jobMay; simp <;> omega]
    exact job_leaf1 b o x w hx e0 (decide_eq_false c1)
  have e1 : decide (x.prio ≤ 255) = true := decide_eq_true (Decidable.not_not.1 c1)
  by_cases c2 : ¬ (0 ≤ x.release ∧ x.release ≤ 1099511627776)
  · rw [show jobMay x = false by unfold jobMay; simp <;> omega]
    exact job_leaf2 b o x w hx e0 e1 (decide_eq_false c2)
  have e2 : decide (0 ≤ x.release ∧ x.release ≤ 1099511627776) = true := decide_eq_true (Decidable.not_not.1 c2)
  by_cases c3 : ¬ (x.release < x.deadline)
  · rw [show jobMay x = false by unfold jobMay; simp <;> omega]
    exact job_leaf3 b o x w hx e0 e1 e2 (decide_eq_false c3)
  have e3 : decide (x.release < x.deadline) = true := decide_eq_true (Decidable.not_not.1 c3)
  by_cases c4 : ¬ (1 ≤ x.demand ∧ x.demand ≤ 65535)
  · rw [show jobMay x = false by unfold jobMay; simp <;> omega]
    exact job_leaf4 b o x w hx e0 e1 e2 e3 (decide_eq_false c4)
  have e4 : decide (1 ≤ x.demand ∧ x.demand ≤ 65535) = true := decide_eq_true (Decidable.not_not.1 c4)
  by_cases c5 : ¬ (0 ≤ x.used)
  · rw [show jobMay x = false by unfold jobMay; simp <;> omega]
    exact job_leaf5 b o x w hx e0 e1 e2 e3 e4 (decide_eq_false c5)
  have e5 : decide (0 ≤ x.used) = true := decide_eq_true (Decidable.not_not.1 c5)
  by_cases c6 : ¬ (x.used < x.demand)
  · rw [show jobMay x = false by unfold jobMay; simp <;> omega]
    exact job_leaf6 b o x w hx e0 e1 e2 e3 e4 e5 (decide_eq_false c6)
  have e6 : decide (x.used < x.demand) = true := decide_eq_true (Decidable.not_not.1 c6)
  by_cases c7 : ¬ (0 ≤ x.task)
  · rw [show jobMay x = false by unfold jobMay; simp <;> omega]
    exact job_leaf7 b o x w hx e0 e1 e2 e3 e4 e5 e6 (decide_eq_false c7)
  have e7 : decide (0 ≤ x.task) = true := decide_eq_true (Decidable.not_not.1 c7)
  by_cases c8 : ¬ (x.task < 6)
  · rw [show jobMay x = false by unfold jobMay; simp <;> omega]
    exact job_leaf8 b o x w hx e0 e1 e2 e3 e4 e5 e6 e7 (decide_eq_false c8)
  have e8 : decide (x.task < 6) = true := decide_eq_true (Decidable.not_not.1 c8)
  by_cases c9 : ¬ (0 ≤ x.seq)
  · rw [show jobMay x = false by unfold jobMay; simp <;> omega]
    exact job_leaf9 b o x w hx e0 e1 e2 e3 e4 e5 e6 e7 e8 (decide_eq_false c9)
  have e9 : decide (0 ≤ x.seq) = true := decide_eq_true (Decidable.not_not.1 c9)
  rw [show jobMay x = true by unfold jobMay; simp <;> omega]
  exact job_leaf10 b o x w hx e0 e1 e2 e3 e4 e5 e6 e7 e8 e9
set_option maxRecDepth 100000 in
set_option maxHeartbeats 1000000 in
theorem refJob_any (x : Job) (w : World) : Calls Try.prog 30 #[jobV x] w fun e w' => e = .returned (.bool (jobMay x)) ∧ Below w.heap.size w w' := by
  have HB := Lib.hid (balloc w (.cells #[.int .i64 x.task, .int .i64 x.seq, .int .i64 x.prio, .int .i64 x.release, .int .i64 x.deadline, .int .i64 x.demand, .int .i64 x.used] 24))
  go_enter Try.func30, Try.ntmps30
  go_wp2
  all_goals
    go_ret
    exact ⟨ret_bool (by unfold jobMay; (rw [Bool.eq_iff_iff]; (try simp only [beq_iff_eq, beq_eq_false_iff_ne, ne_eq] at *); (try simp); (try omega))), HB.out⟩
end Go.Proofs.Ytpjmceiegogobaa
