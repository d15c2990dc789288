/- What the reference answers of programs and tasks. -/
import Derived.Test.YthnecccakeminaaChk4
import Derived.Test.YthnecccakeminaaChk6
set_option linter.unusedVariables false
set_option linter.unusedSimpArgs false
namespace Go.Proofs.Ythnecccakeminaa
open Go.RowKit

set_option maxRecDepth 100000 in
set_option maxHeartbeats 400000 in
theorem refTaskMay_any (t : Task) (w : World) : Calls Try.prog 54 #[taskV t] w fun e w' => e = .returned (.bool (taskMay t)) ∧ Below w.heap.size w w' := by
  go_enter Try.func54, Try.ntmps54
  go_wp2
  all_goals
    go_ret
    exact ⟨ret_bool (by unfold taskMay; first | (rw [decide_eq_decide]; omega) | (rw [eq_comm, decide_eq_false_iff_not]; omega)), balloc _ _⟩

def refInstr (many : Int) (x : Instr) : Bool := decide (0 ≤ x.arg ∧ x.arg ≤ 255 ∧ x.arg < below x.op many)
theorem refInstr_eq (many : Int) (x : Instr) (h : many ≤ 64) : refInstr many x = instrMay many x := by
  unfold refInstr instrMay
  rw [decide_eq_decide]
  constructor
  · rintro ⟨a, -, b⟩; exact ⟨a, b⟩
  · rintro ⟨a, b⟩
    refine ⟨a, ?_, b⟩
    unfold below at b
    (repeat' split at b) <;> omega
set_option maxRecDepth 100000 in
set_option maxHeartbeats 400000 in
theorem refInstrMay_any (x : Instr) (n : Int) (w : World) : Calls Try.prog 63 #[.agg #[.int .i64 x.op, .int .i64 x.arg], .int .i64 n] w fun e w' => e = .returned (.bool (refInstr n x)) ∧ Below w.heap.size w w' := by
  go_enter Try.func63, Try.ntmps63
  go_wp2
  all_goals
    go_ret
    exact ⟨ret_bool (by unfold refInstr below; (try simp only [beq_iff_eq, beq_eq_false_iff_ne, ne_eq] at *); rw [Bool.eq_iff_iff]; (try simp only [decide_eq_true_eq, beq_iff_eq, Bool.false_eq_true, false_iff, true_iff]); (repeat' split) <;> omega), balloc _ _⟩

set_option maxRecDepth 100000 in
set_option maxHeartbeats 400000 in
theorem refCodeMay_any (v : Value) (xs : List Instr) (w : World) (hv : CodeV w v xs) :
    Calls Try.prog 48 #[v] w fun e w' => e = .returned (.bool (codeMay xs)) ∧ Below w.heap.size w w' := by
  obtain ⟨a, c, rfl, hv1, hv2, hv3, hv4⟩ := hv
  have HV := Lib.hid hv4
  clear hv4
  have hl1 : xs.length ≤ 1000000000000000 := by omega
  go_enter Try.func48, Try.ntmps48
  go_wp2_with fail
  go_loopw [3] (fun i wr => ∃ (k : Nat), k ≤ xs.length ∧ i = .int .i64 k ∧ Hid (xs.all (refInstr xs.length) = (xs.drop k).all (refInstr xs.length)) ∧ Below w.heap.size w wr) (fun i _ => xs.length - (intOf i).toNat)
  case atStart => exact ⟨0, by omega, rfl, Lib.hid (by simp), Below.refl _ _⟩
  case round =>
    obtain ⟨k, hk, rfl, HD, hB⟩ := hrel
    have HB := Lib.hid hB
    clear hB
    by_cases hlt : k < xs.length
    · obtain ⟨b, off, rfl, hcell⟩ := HV.out (by intro h; rw [h] at hlt; simp at hlt)
      obtain ⟨y0, y1⟩ := InstrAt.ext (Ext.below HB.out) (hcell k hlt)
      unfold IntAt at y0 y1
      clear hcell
      have hstep := all_step (refInstr xs.length) xs k hlt
      rw [← HD.out] at hstep
      have HS := Lib.hid hstep
      clear hstep HD
      go_wp2_with fail
      refine (refInstrMay_any _ _ _).mono ?_
      rintro e w1 ⟨rfl, hb1⟩
      cases hm : refInstr xs.length xs[k] with
      | false =>
        have HM := Lib.hid hm
        clear hm
        go_wp2_with fail
        go_ret
        exact ⟨ret_bool (by
          rw [HM.out, Bool.false_and] at HS
          unfold codeMay
          by_cases h64 : xs.length ≤ 64
          · have : xs.all (instrMay xs.length) = xs.all (refInstr xs.length) := by
              congr 1; funext x; exact (refInstr_eq _ _ (by omega)).symm
            rw [this, HS.out, Bool.and_false]
          · rw [decide_eq_false h64, Bool.false_and]), bthen HB.out hb1⟩
      | true =>
        have HM := Lib.hid hm
        clear hm
        go_wp2_with fail
        go_roundw
        case rel => exact ⟨k + 1, by omega, by go_num, Lib.hid (by rw [HS.out, HM.out]; simp), bthen HB.out hb1⟩
        case measure => simp [intOf]; omega
    · have hfin : xs.all (refInstr xs.length) = true := by
        rw [HD.out, List.drop_of_length_le (by omega)]; rfl
      have HF := Lib.hid hfin
      clear hfin HD
      go_wp2_with fail
      go_ret
      exact ⟨ret_bool (by
        unfold codeMay
        by_cases h64 : xs.length ≤ 64
        · have : xs.all (instrMay xs.length) = xs.all (refInstr xs.length) := by
            congr 1; funext x; exact (refInstr_eq _ _ (by omega)).symm
          rw [this, HF.out, Bool.and_true]
          (rw [Bool.eq_iff_iff]; (try simp only [beq_iff_eq, beq_eq_false_iff_ne, ne_eq] at *); (try simp); (try omega))
        · rw [decide_eq_false h64, Bool.false_and]; simp; omega), HB.out⟩

/-- May the tasks from k on be, of those ahead of them, whatever the level? -/
def tasksOkFrom (ts : List Task) : Nat → List Task → Bool
  | _, [] => true
  | k, t :: r => (taskMay t && !((ts.take k).any fun x => decide (x.prio = t.prio))) && tasksOkFrom ts (k + 1) r
def tasksOk (ts : List Task) : Bool := tasksOkFrom ts 0 ts
def lvlOk (level : Int) (t : Task) : Bool := !(decide (level = 0) && decide (t.chigh ≠ t.clow))
theorem tasksOkFrom_step (ts : List Task) (k : Nat) (h : k < ts.length) :
    tasksOkFrom ts k (ts.drop k) = ((taskMay ts[k] && !((ts.take k).any fun x => decide (x.prio = ts[k].prio))) && tasksOkFrom ts (k + 1) (ts.drop (k + 1))) := by
  rw [List.drop_eq_getElem_cons h]
  rfl
theorem tasksFrom_eq (level : Int) (ts l : List Task) : ∀ k, tasksFrom level ts k l = (l.all (lvlOk level) && tasksOkFrom ts k l) := by
  induction l with
  | nil => intro k; rfl
  | cons t r ih =>
    intro k
    unfold tasksFrom tasksOkFrom
    rw [ih, List.all_cons]
    unfold lvlOk
    generalize taskMay t = a
    generalize (!(decide (level = 0) && decide (t.chigh ≠ t.clow))) = b
    generalize (!((ts.take k).any fun x => decide (x.prio = t.prio))) = c
    cases a <;> cases b <;> cases c <;> simp
theorem tasksMay_eq (p : Part) : tasksMay p = (p.tasks.all (lvlOk p.level) && (decide (p.tasks.length ≤ 6) && tasksOk p.tasks)) := by
  unfold tasksMay tasksOk
  rw [tasksFrom_eq]
  cases decide (p.tasks.length ≤ 6) <;> simp

set_option maxRecDepth 100000 in
set_option maxHeartbeats 800000 in
theorem refTasksMay_any (v : Value) (xs : List Task) (w : World) (hv : TasksV w v xs) :
    Calls Try.prog 32 #[v] w fun e w' => e = .returned (.bool (tasksOk xs)) ∧ Below w.heap.size w w' := by
  obtain ⟨a, c, rfl, hv1, hv2, hv3, hv4⟩ := hv
  have HV := Lib.hid hv4
  clear hv4
  have hl1 : xs.length ≤ 1000000000000000 := by omega
  go_enter Try.func32, Try.ntmps32
  go_wp2_with fail
  go_loopw [3, 4] (fun i _ wr => ∃ (k : Nat), k ≤ xs.length ∧ i = .int .i64 k ∧ Hid (tasksOk xs = tasksOkFrom xs k (xs.drop k)) ∧ Below w.heap.size w wr) (fun i _ _ => xs.length - (intOf i).toNat)
  case atStart => exact ⟨0, by omega, rfl, Lib.hid (by simp [tasksOk]), Below.refl _ _⟩
  case round =>
    obtain ⟨k, hk, rfl, HD, hB⟩ := hrel
    have HB := Lib.hid hB
    clear hB
    by_cases hlt : k < xs.length
    · obtain ⟨b, off, rfl, hcell⟩ := HV.out (by intro h; rw [h] at hlt; simp at hlt)
      have HC := Lib.hid hcell
      obtain ⟨y0, y1, y2, y3, y4, y5⟩ := TaskAt.ext (Ext.below HB.out) (hcell k hlt)
      unfold IntAt at y0 y1 y2 y3 y4 y5
      clear hcell
      have hstep := tasksOkFrom_step xs k hlt
      rw [← HD.out] at hstep
      have HS := Lib.hid hstep
      clear hstep HD
      go_wp2_with fail
      refine (refTaskMay_any _ _).mono ?_
      rintro e w1 ⟨rfl, hb1⟩
      have HB1 := Lib.hid (bthen HB.out hb1)
      clear hb1 HB y0 y1 y2 y3 y4 y5
      cases hm : taskMay xs[k] with
      | false =>
        have HM := Lib.hid hm
        clear hm
        go_wp2_with fail
        go_ret
        exact ⟨ret_bool (by rw [HS.out, HM.out]; simp), HB1.out⟩
      | true =>
        have HM := Lib.hid hm
        clear hm
        go_wp2_with fail
        obtain ⟨wo, rfl⟩ : ∃ wo : World, wo = w1 := ⟨_, rfl⟩
        go_loopw [4] (fun j wq => ∃ (m : Nat), m ≤ k ∧ j = .int .i64 m ∧ Hid ((xs.take k).any (fun x => decide (x.prio = xs[k].prio)) = ((xs.take k).drop m).any (fun x => decide (x.prio = xs[k].prio))) ∧ Below w.heap.size w wq) (fun j _ => k - (intOf j).toNat)
        case atStart => exact ⟨0, by omega, rfl, Lib.hid (by simp), HB1.out⟩
        case round =>
          obtain ⟨m, hm, rfl, HE, hB2⟩ := hrel
          have HB2 := Lib.hid hB2
          clear hB2
          by_cases hmk : m < k
          · have hml : m < (xs.take k).length := by simp; omega
            have hs2 : ((xs.take k).drop m).any (fun x => decide (x.prio = xs[k].prio)) = (decide (xs[m].prio = xs[k].prio) || ((xs.take k).drop (m + 1)).any (fun x => decide (x.prio = xs[k].prio))) := by
              rw [List.drop_eq_getElem_cons hml, List.any_cons, List.getElem_take]
            rw [← HE.out] at hs2
            have HS2 := Lib.hid hs2
            clear hs2 HE
            have q1 := (TaskAt.ext (Ext.below HB2.out) (HC.out k hlt)).2.2.2.2.2
            have q2 := (TaskAt.ext (Ext.below HB2.out) (HC.out m (by omega))).2.2.2.2.2
            unfold IntAt at q1 q2
            have hmx : m < xs.length := by omega
            by_cases he : xs[m].prio = xs[k].prio
            · have e1 : (xs[m].prio == xs[k].prio) = true := by simp [he]
              have HE2 := Lib.hid he
              clear he
              go_wp2_with fail
              go_quiet (fail)
              go_wp2_with fail
              go_ret
              exact ⟨ret_bool (by rw [HS.out, HS2.out, decide_eq_true HE2.out]; simp), below_drewN HB2.out _⟩
            · have e1 : (xs[m].prio == xs[k].prio) = false := by simp [he]
              have HE2 := Lib.hid he
              clear he
              go_wp2_with fail
              go_quiet (fail)
              go_wp2_with fail
              go_roundw
              case rel => exact ⟨m + 1, by omega, by go_num, Lib.hid (by rw [HS2.out, decide_eq_false HE2.out, Bool.false_or]), below_drewN HB2.out _⟩
              case measure => simp [intOf]; omega
          · obtain rfl : m = k := by omega
            have hf2 : (xs.take m).any (fun x => decide (x.prio = xs[m].prio)) = false := by
              rw [HE.out, List.drop_of_length_le (by simp; omega)]; rfl
            have HF2 := Lib.hid hf2
            clear hf2 HE
            go_wp2_with fail
            go_roundw
            case rel => exact ⟨m + 1, by omega, by go_num, Lib.hid (by rw [HS.out, HM.out, HF2.out]; simp), HB2.out⟩
            case measure => simp [intOf]; omega
    · have hfin : tasksOk xs = true := by
        rw [HD.out, List.drop_of_length_le (by omega)]; rfl
      have HF := Lib.hid hfin
      clear hfin HD
      go_wp2_with fail
      go_ret
      exact ⟨ret_bool HF.out.symm, HB.out⟩
end Go.Proofs.Ythnecccakeminaa
