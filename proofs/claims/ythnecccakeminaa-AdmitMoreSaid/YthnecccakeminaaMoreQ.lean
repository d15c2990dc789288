/- AdmitMore's two halves, plain. -/
import Derived.Test.YthnecccakeminaaMoreP
import Derived.Test.YthnecccakeminaaAdm4
set_option linter.unusedVariables false
set_option linter.unusedSimpArgs false
namespace Go.Proofs.Ythnecccakeminaa
open Go.RowKit

theorem task_of_check {c : Config} (hk : checkCfg c = 0) (P I : Nat) (hP : P < c.parts.length) (hI : I < c.parts[P].tasks.length) : taskMay c.parts[P].tasks[I] = true :=
  (tasksOk_at _ (tasks_ok (check_tasks hk _ (List.getElem_mem hP))).1 I hI).1
theorem taskMay_iff {t : Task} (h : taskMay t = true) : 1 ≤ t.deadline ∧ t.deadline ≤ 1024 ∧ 1 ≤ t.chigh ∧ t.chigh ≤ t.deadline := by
  unfold taskMay at h
  simp only [decide_eq_true_eq] at h
  omega
/-- A last window that is longer. -/
theorem more_window (c : Config) (I : Nat) (hk : checkCfg c = 0) (hP : 0 < c.parts.length) (hl : c.parts[0].level = 1) (hI : I < c.parts[0].tasks.length) :
    (∃ r s : Nat, respSpec c 0 I = ((r : Int), 0) ∧ respSpec (longerCfg c 0) 0 I = ((s : Int), 0) ∧ s ≤ r) ∨ respSpec c 0 I = (0, 901) := by
  have ho := check_ok hk
  obtain ⟨F, hF⟩ := Int.eq_ofNat_of_zero_le (show 0 ≤ c.frame by omega)
  have hk' := longer_ok c 0 (by omega) (by omega) hk
  have ht := taskMay_iff (task_of_check hk 0 I hP hI)
  obtain ⟨D, hD⟩ := Int.eq_ofNat_of_zero_le (show 0 ≤ c.parts[0].tasks[I].deadline by omega)
  have e1 := respSpec_in (P := 0) hk hP hl hI
  have e2 := respSpec_in (c := longerCfg c 0) (P := 0) hk' hP hl hI
  rw [respIn_at c 0 I _ D hP rfl hI hD] at e1
  rw [respIn_at (longerCfg c 0) 0 I c.parts[0].tasks D hP rfl hI hD] at e2
  have hw : ∀ t, ownerAt t c.windows = 0 → ownerAt t (longerCfg c 0).windows = 0 := by
    intro t h
    refine longer_owner c.frame 0 t c.windows ?_ (by omega) h
    exact fun x hx => (winsFrom_all _ _ _ _ ho.2.2.2.2.2.2.2 x hx).2.2.2.1
  rcases respGo_mono (longerCfg c 0) c 0 c.parts[0].tasks c.parts[0].tasks I D (fun l h1 h2 h => by
    rw [leastSpec_ok (longerCfg c 0) 0 l hk' (by omega) (by show (0 : Int) < c.parts.length; omega) (by omega)]
    rw [leastSpec_ok c 0 l hk (by omega) (by omega) (by omega)] at h
    have := least_more c (longerCfg c 0) 0 F hF hF (by omega) hw l
    exact Int.le_trans h this) D 1 (by omega) (by omega) with ⟨u, hu, r, hr, h3, -⟩ | h
  · exact .inl ⟨u, r, e1.trans hu, e2.trans hr, h3⟩
  · exact .inr (e1.trans h)
/-- A greater budget. -/
def moreParts (c : Config) (I : Nat) (h : Int) : List Part := c.parts.modify 0 fun p => ⟨p.level, p.tasks.modify I fun t => moreTask t h, p.code⟩
theorem moreParts_len (c : Config) (I : Nat) (h : Int) : (moreParts c I h).length = c.parts.length := by simp [moreParts]
theorem moreParts_zero (c : Config) (I : Nat) (h : Int) (hP : 0 < c.parts.length) (hI : I < c.parts[0].tasks.length) : (moreParts c I h)[0]'(by rw [moreParts_len]; exact hP) = ⟨c.parts[0].level, c.parts[0].tasks.set I (moreTask c.parts[0].tasks[I] h), c.parts[0].code⟩ := by
  unfold moreParts
  rw [List.getElem_modify]
  rw [if_pos rfl]
  congr 1
  apply List.ext_getElem (by simp)
  intro k h1 h2
  rw [List.getElem_modify, List.getElem_set]
  split
  · rename_i e
    subst e
    rfl
  · rfl
theorem moreParts_other (c : Config) (I : Nat) (h : Int) (k : Nat) (hk : k < c.parts.length) (h0 : k ≠ 0) : (moreParts c I h)[k]'(by rw [moreParts_len]; exact hk) = c.parts[k] := by
  unfold moreParts
  rw [List.getElem_modify, if_neg (by omega)]
theorem more_budget (c : Config) (I : Nat) (h : Int) (hk : checkCfg c = 0) (hP : 0 < c.parts.length) (hl : c.parts[0].level = 1) (hI : I < c.parts[0].tasks.length) (h1 : c.parts[0].tasks[I].chigh ≤ h) (h2 : h ≤ c.parts[0].tasks[I].deadline) :
    (∃ u r : Nat, respSpec (withParts c (moreParts c I h)) 0 I = ((u : Int), 0) ∧ respSpec c 0 I = ((r : Int), 0) ∧ r ≤ u) ∨ respSpec (withParts c (moreParts c I h)) 0 I = (0, 901) := by
  have ho := check_ok hk
  have htm := task_of_check hk 0 I hP hI
  have ht := taskMay_iff htm
  have hmt := check_tasks hk _ (List.getElem_mem hP)
  have htk := tasks_ok hmt
  have hm' : taskMay (moreTask c.parts[0].tasks[I] h) = true := by
    unfold taskMay moreTask at *
    simp only [decide_eq_true_eq] at *
    omega
  have hk' : checkCfg (withParts c (moreParts c I h)) = 0 := by
    refine check_parts c _ (moreParts_len ..) (fun k hk1 => ?_) hk
    have hkl : k < c.parts.length := by rw [moreParts_len] at hk1; exact hk1
    by_cases e : k = 0
    · subst e
      rw [moreParts_zero c I h hP hI]
      refine ⟨rfl, rfl, ?_⟩
      rw [tasksMay_eq]
      simp only [Bool.and_eq_true, decide_eq_true_eq, List.length_set]
      refine ⟨?_, htk.2, tasksOk_set _ I hI _ rfl hm' htk.1⟩
      rw [List.all_eq_true]
      intro x _
      unfold lvlOk
      rw [hl]
      rfl
    · rw [moreParts_other c I h k hkl e]
      exact ⟨rfl, rfl, check_tasks hk _ (List.getElem_mem hkl)⟩
  obtain ⟨D, hD⟩ := Int.eq_ofNat_of_zero_le (show 0 ≤ c.parts[0].tasks[I].deadline by omega)
  have hPm : 0 < (withParts c (moreParts c I h)).parts.length := by show 0 < (moreParts c I h).length; rw [moreParts_len]; exact hP
  have hz : (withParts c (moreParts c I h)).parts[0] = ⟨c.parts[0].level, c.parts[0].tasks.set I (moreTask c.parts[0].tasks[I] h), c.parts[0].code⟩ := moreParts_zero c I h hP hI
  have e1 := respSpec_in (P := 0) hk hP hl hI
  have e2 := respSpec_in (c := withParts c (moreParts c I h)) (P := 0) (I := I) hk' hPm (by rw [hz]; exact hl) (by rw [hz]; simpa using hI)
  rw [respIn_at c 0 I _ D hP rfl hI hD] at e1
  rw [respIn_at (withParts c (moreParts c I h)) 0 I (c.parts[0].tasks.set I (moreTask c.parts[0].tasks[I] h)) D hPm (by rw [hz]) (by simpa using hI) (by simpa [moreTask] using hD)] at e2
  rcases respGo_mono c (withParts c (moreParts c I h)) 0 c.parts[0].tasks (c.parts[0].tasks.set I (moreTask c.parts[0].tasks[I] h)) I D (fun l hl1 hl2 hle => by
    have a := bound_more c.parts[0].tasks I hI h l h1
    rw [least_parts c _ 0 l hk hk' (moreParts_len ..)] at hle
    exact Int.le_trans a hle) D 1 (by omega) (by omega) with ⟨u, hu, r, hr, h3, -⟩ | h
  · exact .inl ⟨u, r, e2.trans hu, e1.trans hr, h3⟩
  · exact .inr (e2.trans h)
end Go.Proofs.Ythnecccakeminaa
