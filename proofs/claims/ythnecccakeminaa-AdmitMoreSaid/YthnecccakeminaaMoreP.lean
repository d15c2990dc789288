/- With more supply nothing comes later, with more asked for nothing sooner: plain. -/
import Derived.Test.YthnecccakeminaaLeast
import Derived.Test.YthnecccakeminaaMixP
set_option linter.unusedVariables false
set_option linter.unusedSimpArgs false
namespace Go.Proofs.Ythnecccakeminaa
open Go.RowKit

theorem respGo_mono (c c' : Config) (p : Int) (ts ts' : List Task) (i D : Nat) (h : ∀ l : Nat, 1 ≤ l → l ≤ D → boundOf ts' i l ≤ (leastSpec c' p l).1 → boundOf ts i l ≤ (leastSpec c p l).1) :
    ∀ m l, 1 ≤ l → l + m ≤ D + 1 → (∃ u : Nat, respGo c' p ts' i l m = ((u : Int), 0) ∧ ∃ r : Nat, respGo c p ts i l m = ((r : Int), 0) ∧ r ≤ u ∧ l ≤ r) ∨ respGo c' p ts' i l m = (0, 901) := by
  intro m
  induction m with
  | zero => intro l _ _; exact .inr rfl
  | succ m ih =>
    intro l h1 h2
    unfold respGo
    by_cases e' : boundOf ts' i l ≤ (leastSpec c' p l).1
    · rw [if_pos e', if_pos (h l h1 (by omega) e')]
      exact .inl ⟨l, rfl, l, rfl, Nat.le_refl _, Nat.le_refl _⟩
    · rw [if_neg e']
      rcases ih (l + 1) (by omega) (by omega) with ⟨u, hu, r, hr, h3, h4⟩ | hu
      · by_cases e : boundOf ts i l ≤ (leastSpec c p l).1
        · rw [if_pos e]
          exact .inl ⟨u, hu, l, rfl, by omega, Nat.le_refl _⟩
        · rw [if_neg e]
          exact .inl ⟨u, hu, r, hr, h3, by omega⟩
      · exact .inr hu
/-- More ticks for a part: no less supply. -/
theorem least_more (c c' : Config) (p : Int) (F : Nat) (h1 : c.frame = F) (h2 : c'.frame = F) (h0 : 0 < F) (h : ∀ t, ownerAt t c.windows = p → ownerAt t c'.windows = p) (L : Nat) : leastN c p L ≤ leastN c' p L := by
  obtain ⟨s, -, e⟩ := leastN_get c' p F h2 h0 L
  have h3 := leastN_le_at c p F h1 h0 L s
  have h4 : ∀ n, cnt c p (s + n) - cnt c p s ≤ cnt c' p (s + n) - cnt c' p s := by
    intro n
    induction n with
    | zero => simp
    | succ n ih =>
      rw [← Nat.add_assoc, cnt_step, cnt_step]
      by_cases e1 : ownerAt (((s + n : Nat) : Int) % c.frame) c.windows = p
      · have e2 := h _ e1
        rw [h1] at e2
        rw [h1] at e1
        rw [h1, h2, if_pos e1, if_pos e2]
        omega
      · rw [if_neg e1]
        split <;> omega
  have := h4 L
  omega
/-- The last of some windows made longer, and a part's. -/
def longer (F p : Int) : List Window → List Window
  | [] => []
  | [x] => [⟨x.from_, if x.to_ < F then F else x.to_, p⟩]
  | x :: y :: r => x :: longer F p (y :: r)
theorem longer_owner (F p t : Int) (ws : List Window) (hp : ∀ x ∈ ws, 0 ≤ x.part) (h0 : 0 ≤ p) (h : ownerAt t ws = p) : ownerAt t (longer F p ws) = p := by
  induction ws with
  | nil => exact h
  | cons x r ih =>
    cases r with
    | nil =>
      unfold ownerAt at h
      unfold longer ownerAt
      simp only
      split at h
      · rename_i hx
        rw [if_pos ⟨hx.1, by split <;> omega⟩]
      · simp only [ownerAt] at h
        omega
    | cons y r =>
      unfold longer
      unfold ownerAt at h ⊢
      split at h
      · rename_i hx
        rw [if_pos hx]; exact h
      · rename_i hx
        rw [if_neg hx]
        exact ih (fun z hz => hp z (List.mem_cons_of_mem _ hz)) h
theorem longer_len (F p : Int) (ws : List Window) : (longer F p ws).length = ws.length := by
  induction ws with
  | nil => rfl
  | cons x r ih =>
    cases r with
    | nil => rfl
    | cons y r => unfold longer; rw [List.length_cons, ih]; rfl
theorem longer_wins (f n p : Int) (h0 : 0 ≤ p) (h1 : p < n) (ws : List Window) : ∀ e, winsFrom f n e ws = true → winsFrom f n e (longer f p ws) = true := by
  induction ws with
  | nil => intro e h; exact h
  | cons x r ih =>
    intro e h
    cases r with
    | nil =>
      unfold winsFrom at h
      unfold longer winsFrom
      simp only [Bool.and_eq_true, decide_eq_true_eq] at h ⊢
      refine ⟨?_, rfl⟩
      split <;> omega
    | cons y r =>
      unfold winsFrom at h
      unfold longer winsFrom
      simp only [Bool.and_eq_true] at h ⊢
      exact ⟨h.1, ih _ h.2⟩
def longerCfg (c : Config) (p : Int) : Config := ⟨c.frame, c.quiet, c.parts, longer c.frame p c.windows, c.ports⟩
theorem longer_ok (c : Config) (p : Int) (h0 : 0 ≤ p) (h1 : p < c.parts.length) (hk : checkCfg c = 0) : checkCfg (longerCfg c p) = 0 := by
  have hw : windowsMay (longerCfg c p) = true := by
    have ho := check_ok hk
    unfold windowsMay
    show (winsFrom c.frame c.parts.length 0 (longer c.frame p c.windows) && decide ((longer c.frame p c.windows).length ≤ 32)) = true
    rw [longer_wins _ _ _ h0 h1 _ _ ho.2.2.2.2.2.2.2, longer_len]
    simpa using ho.2.2.2.2.2.2.1
  unfold checkCfg at hk ⊢
  rw [hw]
  split at hk
  · omega
  rename_i a1
  rw [if_neg (show ¬ ((longerCfg c p).frame < 1 ∨ (longerCfg c p).frame > 256 ∨ (longerCfg c p).quiet < 1 ∨ (longerCfg c p).quiet > 16) from a1)]
  split at hk
  · omega
  rename_i a2
  rw [if_neg (show ¬ ((longerCfg c p).parts.length < 1 ∨ (longerCfg c p).parts.length > 8 ∨ (longerCfg c p).parts.any (fun p => !levelMay p) = true) from a2)]
  split at hk
  · omega
  rename_i a3
  rw [if_neg (show ¬ ((longerCfg c p).parts.any (fun p => !tasksMay p) = true) from a3), if_neg (by decide)]
  split at hk
  · omega
  split at hk
  · omega
  rename_i a4 a5
  rw [if_neg (show ¬ ((longerCfg c p).ports.length > 8 ∨ (longerCfg c p).ports.any (fun x => !portMay (longerCfg c p).parts x) = true) from a5)]
  exact hk
theorem ask_set (p l : Int) (t' : Task) : ∀ (ts : List Task) (i : Nat) (hi : i < ts.length), ask1 p l t' = ask1 p l ts[i] → ask p l (ts.set i t') = ask p l ts := by
  intro ts
  induction ts with
  | nil => intro i hi; simp at hi
  | cons t r ih =>
    intro i hi h
    cases i with
    | zero =>
      show ask1 p l t' + ask p l r = ask1 p l t + ask p l r
      have h' : ask1 p l t' = ask1 p l t := h
      rw [h']
    | succ i =>
      show ask1 p l t + ask p l (r.set i t') = ask1 p l t + ask p l r
      rw [ih i (by simpa using hi) h]
/-- A task's greater budget. -/
def moreTask (t : Task) (h : Int) : Task := ⟨t.kind, t.period, t.deadline, t.clow, h, t.prio⟩
theorem bound_more (ts : List Task) (i : Nat) (hi : i < ts.length) (h l : Int) (hh : ts[i].chigh ≤ h) : boundOf ts i l ≤ boundOf (ts.set i (moreTask ts[i] h)) i l := by
  have g1 : ts.getD i task0 = ts[i] := by simp [List.getD, List.getElem?_eq_getElem hi]
  have g2 : (ts.set i (moreTask ts[i] h)).getD i task0 = moreTask ts[i] h := by simp [List.getD, hi]
  unfold boundOf
  rw [g1, g2]
  show ts[i].chigh + ask ts[i].prio l ts ≤ h + ask ts[i].prio l (ts.set i (moreTask ts[i] h))
  rw [ask_set ts[i].prio l (moreTask ts[i] h) ts i hi (by
    unfold ask1
    rw [if_neg (show ¬ (moreTask ts[i] h).prio < ts[i].prio from Int.lt_irrefl _), if_neg (show ¬ ts[i].prio < ts[i].prio by omega)])]
  omega
theorem tasksOk_of (ts : List Task) (h : ∀ k (hk : k < ts.length), taskMay ts[k] = true ∧ (ts.take k).any (fun x => decide (x.prio = ts[k].prio)) = false) : tasksOk ts = true := by
  have key : ∀ n k, k + n = ts.length → tasksOkFrom ts k (ts.drop k) = true := by
    intro n
    induction n with
    | zero => intro k hk; rw [List.drop_of_length_le (by omega)]; rfl
    | succ n ih =>
      intro k hk
      rw [tasksOkFrom_step ts k (by omega), ih (k + 1) (by omega), (h k (by omega)).1, (h k (by omega)).2]
      rfl
  have := key ts.length 0 (by omega)
  rwa [List.drop_zero] at this
theorem any_prio (l : List Task) (k : Nat) (q : Int) : (l.take k).any (fun x => decide (x.prio = q)) = ((l.map (·.prio)).take k).any (fun z => decide (z = q)) := by
  rw [← List.map_take, List.any_map]
  rfl
theorem set_prio (ts : List Task) (i : Nat) (hi : i < ts.length) (t' : Task) (hp : t'.prio = ts[i].prio) : (ts.set i t').map (·.prio) = ts.map (·.prio) := by
  apply List.ext_getElem (by simp)
  intro j h1 h2
  simp only [List.getElem_map, List.getElem_set]
  split
  · rename_i e
    subst e
    exact hp
  · rfl
theorem tasksOk_set (ts : List Task) (i : Nat) (hi : i < ts.length) (t' : Task) (hp : t'.prio = ts[i].prio) (hm : taskMay t' = true) (h : tasksOk ts = true) : tasksOk (ts.set i t') = true := by
  refine tasksOk_of _ fun k hk => ?_
  have hk' : k < ts.length := by simpa using hk
  obtain ⟨a1, a2⟩ := tasksOk_at ts h k hk'
  have hq : (ts.set i t')[k].prio = ts[k].prio := by
    rw [List.getElem_set]
    split
    · rename_i e; subst e; exact hp
    · rfl
  refine ⟨?_, ?_⟩
  · rw [List.getElem_set]
    split
    · exact hm
    · exact a1
  · rw [any_prio, set_prio ts i hi t' hp, hq, ← any_prio]
    exact a2
theorem any_false_of {α : Type} (l : List α) (f : α → Bool) (h : ∀ i (hi : i < l.length), f l[i] = false) : l.any f = false := by
  rw [List.any_eq_false]
  intro x hx
  obtain ⟨i, hi, rfl⟩ := List.getElem_of_mem hx
  rw [h i hi]
  decide
theorem any_false_at {α : Type} {l : List α} {f : α → Bool} (h : ¬ l.any f = true) (i : Nat) (hi : i < l.length) : f l[i] = false := by
  cases e : f l[i] with
  | false => rfl
  | true => exact absurd (List.any_eq_true.2 ⟨_, List.getElem_mem hi, e⟩) h
/-- Other tasks, as good: the configuration is as good. -/
theorem check_parts (c : Config) (ps : List Part) (hl : ps.length = c.parts.length) (h : ∀ i (hi : i < ps.length), ps[i].level = (c.parts[i]'(by omega)).level ∧ ps[i].code = (c.parts[i]'(by omega)).code ∧ tasksMay ps[i] = true) (hk : checkCfg c = 0) : checkCfg (withParts c ps) = 0 := by
  have hisp : ∀ q l, isPart ps q l = isPart c.parts q l := by
    intro q l
    by_cases hq : 0 ≤ q ∧ q < ps.length
    · obtain ⟨n, rfl⟩ := Int.eq_ofNat_of_zero_le hq.1
      have hn : n < ps.length := by omega
      rw [isPart_in ps n l hn, isPart_in c.parts n l (by omega), (h n hn).1]
    · rw [isPart_out ps q l hq, isPart_out c.parts q l (by omega)]
  unfold checkCfg at hk ⊢
  simp only [show (withParts c ps).parts = ps from rfl, show (withParts c ps).ports = c.ports from rfl]
  split at hk
  · omega
  rename_i a1
  rw [if_neg (show ¬ ((withParts c ps).frame < 1 ∨ (withParts c ps).frame > 256 ∨ (withParts c ps).quiet < 1 ∨ (withParts c ps).quiet > 16) from a1)]
  split at hk
  · omega
  rename_i a2
  rw [if_neg (show ¬ (ps.length < 1 ∨ ps.length > 8 ∨ ps.any (fun p => !levelMay p) = true) by
    rw [any_false_of ps _ (fun i hi => by
      have := any_false_at (fun e => a2 (Or.inr (Or.inr e))) i (by omega)
      unfold levelMay at this ⊢
      rw [(h i hi).1]
      exact this)]
    rw [hl]
    intro e
    rcases e with e | e | e
    · exact a2 (Or.inl e)
    · exact a2 (Or.inr (Or.inl e))
    · exact absurd e (by decide))]
  split at hk
  · omega
  rename_i a3
  rw [if_neg (show ¬ (ps.any (fun p => !tasksMay p) = true) by
    rw [any_false_of ps _ (fun i hi => by rw [(h i hi).2.2]; rfl)]
    decide)]
  split at hk
  · omega
  rename_i a4
  rw [if_neg (show ¬ (windowsMay (withParts c ps) = false) by
    have e : windowsMay (withParts c ps) = windowsMay c := by
      unfold windowsMay
      show (winsFrom c.frame ps.length 0 c.windows && _) = _
      rw [hl]
      rfl
    rw [e]; exact a4)]
  split at hk
  · omega
  rename_i a5
  rw [if_neg (show ¬ (c.ports.length > 8 ∨ c.ports.any (fun x => !portMay ps x) = true) by
    have e : (fun x => !portMay ps x) = (fun x => !portMay c.parts x) := by
      funext x
      unfold portMay
      rw [hisp, hisp]
    rw [e]; exact a5)]
  split at hk
  · omega
  rename_i a6
  rw [if_neg (show ¬ (ps.any (fun p => !codeMay p.code) = true) by
    rw [any_false_of ps _ (fun i hi => by
      have := any_false_at a6 i (by omega)
      rw [(h i hi).2.1]
      exact this)]
    decide)]
end Go.Proofs.Ythnecccakeminaa
