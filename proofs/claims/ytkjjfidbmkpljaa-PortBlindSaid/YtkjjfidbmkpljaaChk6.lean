/- What the functions under config.Check answer: tasks. -/
import Derived.Test.YtkjjfidbmkpljaaChk3
set_option linter.unusedVariables false
set_option linter.unusedSimpArgs false
namespace Go.Proofs.Ytkjjfidbmkpljaa
open Go.RowKit

set_option maxRecDepth 100000 in
set_option maxHeartbeats 400000 in
theorem tasksClo_any (x : Task) (q : Nat) (n : Int) (w : World) (h : w.cell? ⟨q, 5, none⟩ = some (.int .i64 n)) :
    Calls Try.prog 59 #[taskV x, .pointer (some ⟨q, 0, none⟩)] w fun e w' => e = .returned (.bool (decide (x.prio = n))) ∧ Below w.heap.size w w' := by
  have hq : q < w.heap.size := cell_lt h
  go_enter Try.func59, Try.ntmps59
  go_wp2_with fail
  go_ret
  exact ⟨ret_bool (by (rw [Bool.eq_iff_iff]; (try simp only [beq_iff_eq, beq_eq_false_iff_ne, ne_eq] at *); (try simp); (try omega))), balloc _ _⟩

theorem tasksFrom_step (l : Int) (ts : List Task) (k : Nat) (h : k < ts.length) :
    tasksFrom l ts k (ts.drop k) = ((taskMay ts[k] && !(decide (l = 0) && decide (ts[k].chigh ≠ ts[k].clow)) && !((ts.take k).any fun x => decide (x.prio = ts[k].prio))) && tasksFrom l ts (k + 1) (ts.drop (k + 1))) := by
  rw [List.drop_eq_getElem_cons h]
  rfl

set_option maxRecDepth 100000 in
set_option maxHeartbeats 800000 in
theorem tasks_any (g : Nat) (x : Part) (tv : Value) (w : World) (h0 : IntAt w g 0 x.level) (h1 : w.cell? ⟨g, 1, none⟩ = some tv) (ht : TasksV w tv x.tasks) :
    Calls Try.prog 44 #[.pointer (some ⟨g, 0, none⟩)] w fun e w' => e = .returned (.bool (tasksMay x)) ∧ Below w.heap.size w w' := by
  have HT := Lib.hid ht
  obtain ⟨a, c, rfl, hv1, hv2, hv3, hv4⟩ := ht
  have HV := Lib.hid hv4
  have H0 := Lib.hid h0
  have H1 := Lib.hid h1
  clear hv4 h0
  have hl1 : x.tasks.length ≤ 1000000000000000 := by omega
  by_cases h6 : 6 < x.tasks.length
  · go_enter Try.func44, Try.ntmps44
    go_wp2_with fail
    go_ret
    exact ⟨ret_bool (by unfold tasksMay; simp; omega), Below.refl _ _⟩
  · go_enter Try.func44, Try.ntmps44
    go_wp2_with fail
    clear h1
    go_loopw [3, 4, 5, 17] (fun _ _ _ i wr => ∃ (k : Nat), k ≤ x.tasks.length ∧ i = .int .i64 k ∧ Hid (tasksFrom x.level x.tasks 0 x.tasks = tasksFrom x.level x.tasks k (x.tasks.drop k)) ∧ Below w.heap.size w wr) (fun _ _ _ i _ => x.tasks.length - (intOf i).toNat)
    case atStart => exact ⟨0, by omega, rfl, Lib.hid (by simp), Below.refl _ _⟩
    case round =>
      obtain ⟨k, hk, rfl, HD, hB⟩ := hrel
      have HB := Lib.hid hB
      clear hB
      by_cases hlt : k < x.tasks.length
      · obtain ⟨b, off, rfl, hcell⟩ := HV.out (by intro h; rw [h] at hlt; simp at hlt)
        obtain ⟨y0, y1, y2, y3, y4, y5⟩ := TaskAt.ext (Ext.below HB.out) (hcell k hlt)
        unfold IntAt at y0 y1 y2 y3 y4 y5
        clear hcell
        have hstep := tasksFrom_step x.level x.tasks k hlt
        rw [← HD.out] at hstep
        have HS := Lib.hid hstep
        have hgw : g < wr.heap.size := Nat.lt_of_lt_of_le (cell_lt H1.out) HB.out.size
        have hbw : b < wr.heap.size := cell_lt y0
        have Y := Lib.hid (And.intro y0 (And.intro y1 (And.intro y2 (And.intro y3 (And.intro y4 y5)))))
        clear hstep HD
        go_wp2_with fail
        refine (taskMay_any _ _).mono ?_
        rintro e w1 ⟨rfl, hb⟩
        have hb' := bthen HB.out (bthen (balloc _ _) hb)
        have z0 : w1.cell? ⟨g, 0, none⟩ = some (.int .i64 x.level) := Ext.below hb' _ _ H0.out
        have z1 := Ext.below hb' _ _ H1.out
        have c3 : w1.cell? ⟨wr.heap.size, 3, none⟩ = some (.int .i64 x.tasks[k].clow) := Ext.below hb _ _ (box_at 3 rfl)
        have c4 : w1.cell? ⟨wr.heap.size, 4, none⟩ = some (.int .i64 x.tasks[k].chigh) := Ext.below hb _ _ (box_at 4 rfl)
        have c5 : w1.cell? ⟨wr.heap.size, 5, none⟩ = some (.int .i64 x.tasks[k].prio) := Ext.below hb _ _ (box_at 5 rfl)
        have HB' := Lib.hid hb'
        have HT1 := Lib.hid (SliceAt.take (HT.out.ext (Ext.below hb')) k hk)
        clear hb hb' y0 y1 y2 y3 y4 y5 HB
        cases hm : taskMay x.tasks[k] with
        | false =>
          have HM := Lib.hid hm
          clear hm
          go_wp2_with fail
          go_ret
          exact ⟨ret_bool (by unfold tasksMay; rw [HS.out, HM.out]; simp), HB'.out⟩
        | true =>
          have HM := Lib.hid hm
          clear hm
          by_cases hbad : x.level = 0 ∧ x.tasks[k].chigh ≠ x.tasks[k].clow
          · have e1 : (x.level == 0) = true := by simp [hbad.1]
            have e2 : (x.tasks[k].chigh != x.tasks[k].clow) = true := by simp [hbad.2]
            have HBd := Lib.hid hbad
            clear hbad
            go_wp2_with fail
            go_ret
            exact ⟨ret_bool (by unfold tasksMay; rw [HS.out, HM.out]; simp [HBd.out.1, HBd.out.2]), HB'.out⟩
          · have hg : (!(decide (x.level = 0) && decide (x.tasks[k].chigh ≠ x.tasks[k].clow))) = true := by
              simp only [Bool.not_eq_true', Bool.and_eq_false_iff, decide_eq_false_iff_not]
              by_cases q : x.level = 0
              · right; intro r; exact hbad ⟨q, r⟩
              · left; exact q
            have HG := Lib.hid hg
            have hcases : (x.level == 0) = false ∨ (x.level == 0) = true ∧ (x.tasks[k].chigh != x.tasks[k].clow) = false := by
              by_cases q : x.level = 0
              · right; exact ⟨by simp [q], by simp; exact Classical.byContradiction fun r => hbad ⟨q, r⟩⟩
              · left; simp [q]
            clear hg hbad
            have hany := containsTask_any (.pointer (some ⟨wr.heap.size, 0, none⟩)) (.slice (some ⟨b, off, none⟩) k c) (x.tasks.take k) (fun y => decide (y.prio = x.tasks[k].prio)) w1 HT1.out
              (fun i h W hW => tasksClo_any _ _ _ W (Ext.below hW _ _ c5))
            have HA := Lib.hid hany
            clear hany
            have hkc : k ≤ c := by omega
            rcases hcases with e1 | ⟨e1, e2⟩
            all_goals
              go_wp2_with fail
              refine HA.out.mono ?_
              rintro e w2 ⟨rfl, hb2⟩
              cases hcon : (x.tasks.take k).any (fun y => decide (y.prio = x.tasks[k].prio)) with
              | false =>
                have HN := Lib.hid hcon
                clear hcon
                go_wp2_with fail
                go_roundw
                case rel => exact ⟨k + 1, by omega, by go_num, Lib.hid (by rw [HS.out, HM.out, HG.out, HN.out]; simp), bthen HB'.out hb2⟩
                case measure => simp [intOf]; omega
              | true =>
                have HN := Lib.hid hcon
                clear hcon
                go_wp2_with fail
                go_ret
                exact ⟨ret_bool (by unfold tasksMay; rw [HS.out, HM.out, HG.out, HN.out]; simp), bthen HB'.out hb2⟩
      · have hfin : tasksFrom x.level x.tasks 0 x.tasks = true := by
          rw [HD.out, List.drop_of_length_le (by omega)]; rfl
        have HF := Lib.hid hfin
        clear hfin HD
        go_wp2_with fail
        go_ret
        exact ⟨ret_bool (by unfold tasksMay; rw [HF.out, Bool.and_true]; (rw [Bool.eq_iff_iff]; (try simp only [beq_iff_eq, beq_eq_false_iff_ne, ne_eq] at *); (try simp); (try omega))), HB.out⟩
end Go.Proofs.Ytkjjfidbmkpljaa
