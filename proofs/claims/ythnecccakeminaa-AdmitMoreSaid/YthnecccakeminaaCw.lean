/- A part's ticks of a frame are its share. -/
import Derived.Test.YthnecccakeminaaFrm1
set_option linter.unusedVariables false
set_option linter.unusedSimpArgs false
namespace Go.Proofs.Ythnecccakeminaa
open Go.RowKit

/-- How many of the first n ticks of one frame are a part's. -/
def cw (p : Int) (ws : List Window) : Nat → Int
  | 0 => 0
  | n + 1 => cw p ws n + if ownerAt n ws = p then 1 else 0
theorem cnt_cw (c : Config) (p : Int) (n : Nat) (h : (n : Int) ≤ c.frame) : cnt c p n = cw p c.windows n := by
  induction n with
  | zero => rfl
  | succ n ih =>
    unfold cnt cw
    rw [ih (by omega), Int.emod_eq_of_lt (by omega) (by omega)]
theorem ownerAt_before (t : Int) (l : List Window) (h : ∀ y ∈ l, t < y.from_) : ownerAt t l = -1 := by
  induction l with
  | nil => rfl
  | cons y r ih =>
    have h1 := h y (by simp)
    unfold ownerAt
    rw [if_neg (by omega), ih (fun z hz => h z (by simp [hz]))]
theorem cw_cons (p : Int) (hp : 0 ≤ p) (x : Window) (r : List Window) (h0 : 0 ≤ x.from_) (h1 : x.from_ < x.to_) (h : ∀ y ∈ r, x.to_ ≤ y.from_) (n : Nat) :
    cw p (x :: r) n = (if x.part = p then (if (n : Int) ≤ x.from_ then 0 else if (n : Int) ≤ x.to_ then n - x.from_ else x.to_ - x.from_) else 0) + cw p r n := by
  induction n with
  | zero => simp [cw]; omega
  | succ n ih =>
    unfold cw
    rw [ih]
    by_cases c1 : x.from_ ≤ n ∧ (n : Int) < x.to_
    · have e1 : ownerAt n (x :: r) = x.part := by unfold ownerAt; rw [if_pos c1]
      have e2 : ownerAt n r = -1 := ownerAt_before _ _ (fun y hy => by have := h y hy; omega)
      rw [e1, e2, if_neg (show ¬ (-1 = p) by omega)]
      by_cases e : x.part = p
      · simp only [if_pos e]
        (repeat' split) <;> omega
      · simp only [if_neg e]
        omega
    · have e1 : ownerAt n (x :: r) = ownerAt n r := by
        show (if x.from_ ≤ n ∧ (n : Int) < x.to_ then x.part else ownerAt n r) = _
        rw [if_neg c1]
      rw [e1]
      by_cases e : x.part = p
      · simp only [if_pos e]
        (repeat' split) <;> omega
      · simp only [if_neg e]
        omega
theorem winsFrom_tail {f n e : Int} {x : Window} {r : List Window} (h : winsFrom f n e (x :: r) = true) : e ≤ x.from_ ∧ x.from_ < x.to_ ∧ x.to_ ≤ f ∧ winsFrom f n x.to_ r = true := by
  unfold winsFrom at h
  simp only [Bool.and_eq_true, decide_eq_true_eq] at h
  exact ⟨h.1.1, h.1.2.1, h.1.2.2.1, h.2⟩
theorem cw_share (p : Int) (hp : 0 ≤ p) (f n : Int) (ws : List Window) (m : Nat) (hm : f ≤ m) : ∀ e, 0 ≤ e → winsFrom f n e ws = true → cw p ws m = shareOf p ws := by
  induction ws with
  | nil =>
    intro e _ _
    have : ∀ k, cw p [] k = 0 := by
      intro k
      induction k with
      | zero => rfl
      | succ k ih => unfold cw; rw [ih, if_neg (by unfold ownerAt; omega)]; rfl
    exact this m
  | cons x r ih =>
    intro e he h
    obtain ⟨h1, h2, h3, h4⟩ := winsFrom_tail h
    rw [cw_cons p hp x r (by omega) h2 (fun y hy => (winsFrom_all _ _ _ _ h4 y hy).1), ih x.to_ (by omega) h4]
    show _ = (if x.part = p then x.to_ - x.from_ else 0) + shareOf p r
    by_cases e : x.part = p
    · simp only [if_pos e]
      (repeat' split) <;> omega
    · simp only [if_neg e]
theorem cnt_share (c : Config) (p : Int) (hp : 0 ≤ p) (hk : checkCfg c = 0) : cnt c p c.frame.toNat = shareOf p c.windows := by
  have ho := check_ok hk
  rw [cnt_cw _ _ _ (by omega)]
  exact cw_share p hp c.frame c.parts.length c.windows c.frame.toNat (by omega) 0 (by omega) ho.2.2.2.2.2.2.2

end Go.Proofs.Ythnecccakeminaa
