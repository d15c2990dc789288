/- A part of one task: plain laws (New, Pick, Begin, Run). -/
import Derived.Test.YtbkhnlacabaagaaLocI
set_option linter.unusedVariables false
set_option linter.unusedSimpArgs false
namespace Go.Proofs.Ytbkhnlacabaagaa
open Go.RowKit

theorem alone_ok {p : Part} (h1 : levelMay p = true) (h2 : tasksMay p = true) (h3 : p.code = []) : checkCfg (alone p) = 0 := by
  unfold checkCfg alone
  rw [if_neg (by simp), if_neg (by simp [h1]), if_neg (by simp [h2]), if_neg (by simp [windowsMay, winsFrom]), if_neg (by simp), if_neg (by simp [h3, codeMay])]
theorem newBad_ok {i : Int} {p : Part} (hi : 0 ≤ i) (hi2 : i < 8) (h1 : levelMay p = true) (h2 : tasksMay p = true) (h3 : p.code = []) : newBad i p = false := by
  unfold newBad
  rw [decide_eq_false_iff_not, alone_ok h1 h2 h3]
  omega
def lone (l : Int) (t : Task) : Part := ⟨l, [t], []⟩
theorem lone_ok {i l : Int} {t : Task} (hi : 0 ≤ i) (hi2 : i < 8) (hl : l = 0 ∨ l = 1) (ht : taskMay t = true) (hc : l = 0 → t.chigh = t.clow) : newBad i (lone l t) = false := by
  refine newBad_ok hi hi2 ?_ ?_ rfl
  · unfold levelMay lone
    simpa using hl
  · unfold tasksMay lone
    simp only [tasksFrom, List.length_singleton, List.take_zero, List.any_nil, ht, Bool.not_false, Bool.and_true, Bool.true_and, Bool.and_eq_true, Bool.not_eq_true', Bool.and_eq_false_iff, decide_eq_false_iff_not, decide_eq_true_eq, ne_eq, Decidable.not_not]
    refine ⟨by omega, ?_⟩
    rcases hl with h | h
    · right; exact hc h
    · left; omega
/-- A lone task's schedule. -/
def loneS (i l : Int) (t : Task) (s : Turns) (q : Int) (js : List Job) : LSt := ⟨i, l, [⟨t, s, q⟩], js⟩
theorem lone_new (i l : Int) (t : Task) : newL i (lone l t) = loneS i l t ⟨-1, []⟩ 0 [] := rfl
theorem lone_pick {i l : Int} {t : Task} {s : Turns} {q : Int} {js : List Job} {d now : Int} (hc : clockB now = true) (he : pickE t s d = 0) :
    pickErr (loneS i l t s q js) 0 d now = 0 ∧ pickSt (loneS i l t s q js) 0 d now = loneS i l t ⟨s.last, s.picks ++ [d]⟩ q js ∧ pickEv (loneS i l t s q js) 0 d now = if lateB t ⟨s.last, s.picks ++ [d]⟩ now = true then [⟨2, i, 0, s.last + t.period - now⟩] else [] := by
  have h1 : pickErr (loneS i l t s q js) 0 d now = 0 := by
    unfold pickErr
    rw [if_neg (by rw [hc]; simp [loneS])]
    exact he
  refine ⟨h1, ?_, ?_⟩
  · unfold pickSt
    rw [if_pos h1]
    rfl
  · unfold pickEv
    rw [h1]
    simp only [true_and]
    rfl
theorem lone_pickNo {i l : Int} {t : Task} {s : Turns} {q : Int} {js : List Job} {d now : Int} (hc : clockB now = true) (he : pickE t s d ≠ 0) :
    pickErr (loneS i l t s q js) 0 d now = pickE t s d ∧ pickSt (loneS i l t s q js) 0 d now = loneS i l t s q js ∧ pickEv (loneS i l t s q js) 0 d now = [] := by
  have h1 : pickErr (loneS i l t s q js) 0 d now = pickE t s d := by
    unfold pickErr
    rw [if_neg (by rw [hc]; simp [loneS])]
    rfl
  refine ⟨h1, ?_, ?_⟩
  · unfold pickSt
    rw [if_neg (by rw [h1]; exact he)]
  · unfold pickEv
    rw [if_neg (by rw [h1]; exact fun q => he q.1)]
def loneJ (t : Task) (s : Turns) (q now : Int) : Job := ⟨0, q, t.prio, now, now + t.deadline, relD t s, 0⟩
/-- Begin where the task's job comes, and is put. -/
theorem lone_begin {i l : Int} {t : Task} {s : Turns} {q now : Int} {js : List Job} (hr : relIs t s now = true) (hp : putE (leftJ js now) (loneJ t s q now) = 0) :
    begS (loneS i l t s q js) now = loneS i l t ⟨now, s.picks.drop 1⟩ (q + 1) (putL (leftJ js now) (loneJ t s q now)) ∧ begE (loneS i l t s q js) now = (lateJ js now).map (fun j => ⟨3, i, j.task, j.used⟩) ++ [⟨1, i, 0, relD t s⟩] := by
  have h1 : relS { loneS i l t s q js with js := leftJ js now } 0 now = loneS i l t ⟨now, s.picks.drop 1⟩ (q + 1) (putL (leftJ js now) (loneJ t s q now)) := by
    unfold relS
    rw [if_pos (by exact hr), if_pos (by exact hp)]
    rfl
  have h2 : relEv { loneS i l t s q js with js := leftJ js now } 0 now = [⟨1, i, 0, relD t s⟩] := by
    unfold relEv
    rw [if_pos ⟨by exact hr, by exact hp⟩]
    rfl
  constructor
  · unfold begS
    show (relN _ now 1).1 = _
    simp only [relN]
    exact h1
  · unfold begE missEv
    show _ ++ (relN _ now 1).2 = _
    simp only [relN, List.nil_append]
    rw [show relEv { loneS i l t s q js with js := leftJ (loneS i l t s q js).js now } 0 now = [⟨1, i, 0, relD t s⟩] from h2]
    rfl
/-- Begin where no job comes. -/
theorem lone_beginNo {i l : Int} {t : Task} {s : Turns} {q now : Int} {js : List Job} (hr : relIs t s now = false) :
    begS (loneS i l t s q js) now = loneS i l t s q (leftJ js now) ∧ begE (loneS i l t s q js) now = (lateJ js now).map (fun j => ⟨3, i, j.task, j.used⟩) := by
  have h1 : relS { loneS i l t s q js with js := leftJ js now } 0 now = loneS i l t s q (leftJ js now) := by
    unfold relS
    rw [if_neg (by rw [Bool.not_eq_true]; exact hr)]
    rfl
  have h2 : relEv { loneS i l t s q js with js := leftJ js now } 0 now = [] := by
    unfold relEv
    rw [if_neg (fun e => by have := e.1; rw [show relIs ((({ loneS i l t s q js with js := leftJ js now } : LSt)).run 0).t ((({ loneS i l t s q js with js := leftJ js now } : LSt)).run 0).s now = false from hr] at this; cases this)]
  constructor
  · unfold begS
    show (relN _ now 1).1 = _
    simp only [relN]
    exact h1
  · unfold begE missEv
    show _ ++ (relN _ now 1).2 = _
    simp only [relN, List.nil_append]
    rw [show relEv { loneS i l t s q js with js := leftJ (loneS i l t s q js).js now } 0 now = [] from h2]
    simp only [List.append_nil]
    rfl
theorem lone_run {i l : Int} {t : Task} {s : Turns} {q : Int} {j : Job} {r : List Job} (hj : j.task = 0) :
    runV (loneS i l t s q (j :: r)) = chV j t l ∧ runS (loneS i l t s q (j :: r)) = (if ((chV j t l).done || (chV j t l).kill) = true then loneS i l t s q r else loneS i l t s q (chJ j :: r)) ∧ runE (loneS i l t s q (j :: r)) = 0 ∧ runEv (loneS i l t s q (j :: r)) = evIf (chV j t l).over ⟨4, i, 0, j.used + 1⟩ ++ evIf (chV j t l).done ⟨5, i, 0, j.used + 1⟩ ++ evIf (chV j t l).kill ⟨6, i, 0, j.used + 1⟩ := by
  have h1 : runV (loneS i l t s q (j :: r)) = chV j t l := by
    unfold runV loneS LSt.hd
    simp only [List.isEmpty_cons, Bool.false_eq_true, if_false, List.headD_cons, hj]
    rfl
  refine ⟨h1, ?_, rfl, ?_⟩
  · unfold runS
    rw [h1]
    rfl
  · unfold runEv
    simp only [runEvK, h1]
    rw [show (loneS i l t s q (j :: r)).hd = j from rfl]
    simp only [evt, hj]
    rfl
theorem lone_none {i l : Int} {t : Task} {s : Turns} {q : Int} : runV (loneS i l t s q []) = ⟨false, false, false⟩ ∧ runS (loneS i l t s q []) = loneS i l t s q [] ∧ runE (loneS i l t s q []) = 1401 ∧ runEv (loneS i l t s q []) = [] ∧ failS (loneS i l t s q []) = loneS i l t s q [] ∧ failEv (loneS i l t s q []) = [] := ⟨rfl, rfl, rfl, rfl, rfl, rfl⟩
theorem putE_nil {j : Job} (h : jobMay j = true) : putE [] j = 0 ∧ putL [] j = [j] := by
  unfold putE putL hit pos
  rw [show jobsMay [] = true from rfl, h]
  simp
theorem LocIs.grown {W W' : World} {b lo : Nat} {S : LSt} {m : Int} (h : LocIs W b lo S m) {B n : Nat} {v : Value} {xs : List Value} (ho : W.ownsRow B 39 4 v n xs) (hg : W.grownBy W' v.ownBlock) : LocIs W' b lo S m := by
  obtain ⟨ps, F, h1, h2⟩ := h
  exact ⟨ps, F, h1.far (fun k hk => hg.block k (h1.lt hk) (fun e => h1.evApart ho k e.symm hk)), h2⟩
end Go.Proofs.Ytbkhnlacabaagaa
