/- What low parts ask for does not count: plain. -/
import Derived.Test.YthnecccakeminaaAdm4
set_option linter.unusedVariables false
set_option linter.unusedSimpArgs false
namespace Go.Proofs.Ythnecccakeminaa
open Go.RowKit

/-- A low part with the tasks of another low part. -/
def mix1 (p d : Part) : Part := if p.level = 0 ∧ d.level = 0 then ⟨p.level, d.tasks, p.code⟩ else p
def mixTo (ps ds : List Part) (k : Nat) : List Part := ps.mapIdx fun i p => if i < k then mix1 p (ds.getD i part0) else p
theorem mixTo_len (ps ds : List Part) (k : Nat) : (mixTo ps ds k).length = ps.length := by simp [mixTo]
theorem mixTo_get (ps ds : List Part) (k i : Nat) (h : i < ps.length) (h' : i < (mixTo ps ds k).length) : (mixTo ps ds k)[i] = if i < k then mix1 ps[i] (ds.getD i part0) else ps[i] := by simp [mixTo]
theorem mixTo_zero (ps ds : List Part) : mixTo ps ds 0 = ps := by
  apply List.ext_getElem (mixTo_len ..)
  intro i h1 h2
  rw [mixTo_get ps ds 0 i h2]
  simp
theorem mix1_level (p d : Part) : (mix1 p d).level = p.level := by unfold mix1; split <;> rfl
theorem mix1_high (p d : Part) (h : p.level = 1) : mix1 p d = p := by unfold mix1; rw [if_neg (by omega)]
theorem mix_level (ps ds : List Part) (k i : Nat) (h : i < ps.length) (h' : i < (mixTo ps ds k).length) : (mixTo ps ds k)[i].level = ps[i].level := by
  rw [mixTo_get ps ds k i h]
  split
  · exact mix1_level _ _
  · rfl
theorem mix_high (ps ds : List Part) (k i : Nat) (h : i < ps.length) (h' : i < (mixTo ps ds k).length) (hl : ps[i].level = 1) : (mixTo ps ds k)[i] = ps[i] := by
  rw [mixTo_get ps ds k i h]
  split
  · exact mix1_high _ _ hl
  · rfl
def withParts (c : Config) (ps : List Part) : Config := ⟨c.frame, c.quiet, ps, c.windows, c.ports⟩
theorem cnt_parts (c : Config) (ps : List Part) (p : Int) (n : Nat) : cnt (withParts c ps) p n = cnt c p n := by
  induction n with
  | zero => rfl
  | succ n ih => unfold cnt; rw [ih]; rfl
theorem leastTo_parts (c : Config) (ps : List Part) (p : Int) (r : Nat) (m : Int) (n : Nat) : leastTo (withParts c ps) p r m n = leastTo c p r m n := by
  induction n with
  | zero => rfl
  | succ n ih => unfold leastTo; rw [ih, cnt_parts, cnt_parts]
theorem least_parts (c : Config) (ps : List Part) (p l : Int) (h1 : checkCfg c = 0) (h2 : checkCfg (withParts c ps) = 0) (hl : ps.length = c.parts.length) : leastSpec (withParts c ps) p l = leastSpec c p l := by
  unfold leastSpec
  rw [h1, h2]
  have e : (withParts c ps).parts.length = c.parts.length := hl
  rw [e]
  split
  · rfl
  · rw [leastTo_parts, cnt_parts, cnt_parts]; rfl
theorem respGo_parts (c : Config) (ps : List Part) (p : Int) (ts : List Task) (i : Nat) (h1 : checkCfg c = 0) (h2 : checkCfg (withParts c ps) = 0) (hl : ps.length = c.parts.length) (m : Nat) : ∀ l, respGo (withParts c ps) p ts i l m = respGo c p ts i l m := by
  induction m with
  | zero => intro l; rfl
  | succ m ih =>
    intro l
    unfold respGo
    rw [least_parts c ps p l h1 h2 hl, ih]
theorem respIn_parts (c : Config) (ps : List Part) (P i : Nat) (h1 : checkCfg c = 0) (h2 : checkCfg (withParts c ps) = 0) (hl : ps.length = c.parts.length) (hP : P < c.parts.length) (he : ps[P]'(by omega) = c.parts[P]) : respIn (withParts c ps) P i = respIn c P i := by
  have e1 : tasksOf (withParts c ps) P = tasksOf c P := by
    rw [tasksOf_at c P hP, tasksOf_at (withParts c ps) P (by show P < ps.length; omega)]
    show (ps[P]'(by omega)).tasks = _
    rw [he]
  unfold respIn
  rw [e1, respGo_parts c ps P _ i h1 h2 hl]
theorem respSpec_mix (c : Config) (ds : List Part) (k : Nat) (i : Int) (h1 : checkCfg c = 0) (h2 : checkCfg (withParts c (mixTo c.parts ds k)) = 0) (hlv : levelOf c.parts 0 = 1) : respSpec (withParts c (mixTo c.parts ds k)) 0 i = respSpec c 0 i := by
  have h0 : 0 < c.parts.length := by have := check_ok h1; omega
  have hl0 := levelOf_at c 0 h0
  have e0 : ((0 : Nat) : Int) = 0 := rfl
  rw [e0, hlv] at hl0
  have hm : (mixTo c.parts ds k)[0]'(by rw [mixTo_len]; exact h0) = c.parts[0] := mix_high c.parts ds k 0 h0 _ hl0.symm
  have hx := levelOf_at (withParts c (mixTo c.parts ds k)) 0 (by show 0 < (mixTo c.parts ds k).length; rw [mixTo_len]; exact h0)
  have hx2 : levelOf (withParts c (mixTo c.parts ds k)).parts 0 = 1 := by
    rw [← e0, hx]
    show ((mixTo c.parts ds k)[0]'(by rw [mixTo_len]; exact h0)).level = 1
    rw [hm]; exact hl0.symm
  have ht : tasksOf (withParts c (mixTo c.parts ds k)) 0 = tasksOf c 0 := by
    have a := tasksOf_at c 0 h0
    have b := tasksOf_at (withParts c (mixTo c.parts ds k)) 0 (by show 0 < (mixTo c.parts ds k).length; rw [mixTo_len]; exact h0)
    rw [e0] at a b
    rw [a, b]
    show ((mixTo c.parts ds k)[0]'(by rw [mixTo_len]; exact h0)).tasks = _
    rw [hm]
  unfold respSpec
  rw [h1, h2, hlv, hx2, ht]
  split
  · rfl
  · have := respIn_parts c (mixTo c.parts ds k) 0 i.toNat h1 h2 (mixTo_len ..) h0 hm
    rw [e0] at this
    exact this
theorem lateTasks_congr (c c' : Config) (p : Int) (h : ∀ i, respIn c' p i = respIn c p i) : ∀ (ts : List Task) (i : Nat), lateTasks c' p i ts = lateTasks c p i ts := by
  intro ts
  induction ts with
  | nil => intro i; rfl
  | cons t r ih => intro i; unfold lateTasks; rw [h, ih]
theorem admitSpec_mix (c : Config) (ds : List Part) (k : Nat) (h1 : checkCfg c = 0) (h2 : checkCfg (withParts c (mixTo c.parts ds k)) = 0) : admitSpec (withParts c (mixTo c.parts ds k)) = admitSpec c := by
  obtain ⟨ps, hps⟩ : ∃ ps, ps = mixTo c.parts ds k := ⟨_, rfl⟩
  have hlen : ps.length = c.parts.length := by rw [hps]; exact mixTo_len ..
  have hlv : ∀ i (h : i < c.parts.length), (ps[i]'(by omega)).level = c.parts[i].level := by
    subst hps
    intro i h
    exact mix_level c.parts ds k i h _
  have hhi : ∀ i (h : i < c.parts.length), c.parts[i].level = 1 → ps[i]'(by omega) = c.parts[i] := by
    subst hps
    intro i h hl
    exact mix_high c.parts ds k i h _ hl
  rw [← hps] at h2 ⊢
  clear hps
  have e1 : ∀ n j, j + n = c.parts.length → lateFrom (withParts c ps) j (ps.drop j) = lateFrom c j (c.parts.drop j) := by
    intro n
    induction n with
    | zero => intro j hj; rw [List.drop_of_length_le (by omega), List.drop_of_length_le (by omega)]; rfl
    | succ n ih =>
      intro j hj
      rw [lateFrom_step _ ps j (by omega), lateFrom_step _ c.parts j (by omega), ih (j + 1) (by omega), hlv j (by omega)]
      by_cases hl : c.parts[j].level = 1
      · have he := hhi j (by omega) hl
        rw [he, lateTasks_congr c (withParts c ps) j (fun i => respIn_parts c ps j i h1 h2 hlen (by omega) he)]
      · rw [decide_eq_false hl, Bool.false_and, Bool.false_and]
  have e2 : ∀ n j, j + n = c.parts.length → noneFrom (withParts c ps) j (ps.drop j) = noneFrom c j (c.parts.drop j) := by
    intro n
    induction n with
    | zero => intro j hj; rw [List.drop_of_length_le (by omega), List.drop_of_length_le (by omega)]; rfl
    | succ n ih =>
      intro j hj
      rw [noneFrom_step _ ps j (by omega), noneFrom_step _ c.parts j (by omega), ih (j + 1) (by omega), hlv j (by omega)]
      rfl
  have a1 := e1 c.parts.length 0 (by omega)
  have a2 := e2 c.parts.length 0 (by omega)
  rw [List.drop_zero, List.drop_zero] at a1 a2
  unfold admitSpec
  rw [h1, h2]
  show (if (0 : Int) ≠ 0 then 0 else if lateFrom (withParts c ps) 0 ps = true then 901 else if noneFrom (withParts c ps) 0 ps = true then 902 else 0) = _
  rw [a1, a2]
end Go.Proofs.Ythnecccakeminaa
