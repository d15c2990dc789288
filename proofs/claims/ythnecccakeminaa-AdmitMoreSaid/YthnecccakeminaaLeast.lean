/- The least supply, as plain arithmetic. -/
import Derived.Test.YthnecccakeminaaLeastN
set_option linter.unusedVariables false
set_option linter.unusedSimpArgs false
namespace Go.Proofs.Ythnecccakeminaa
open Go.RowKit

theorem cnt_step (c : Config) (p : Int) (n : Nat) : cnt c p (n + 1) = cnt c p n + if ownerAt ((n : Int) % c.frame) c.windows = p then 1 else 0 := rfl
theorem cnt_slow (c : Config) (p : Int) (n r : Nat) : cnt c p (n + r) ≤ cnt c p n + r := by
  induction r with
  | zero => simp
  | succ r ih =>
    rw [← Nat.add_assoc, cnt_step]
    split <;> omega
theorem cnt_period (c : Config) (p : Int) (F : Nat) (hF : c.frame = F) (n : Nat) : cnt c p (n + F) = cnt c p n + cnt c p F := by
  induction n with
  | zero => simp [cnt]
  | succ n ih =>
    rw [show n + 1 + F = (n + F) + 1 by omega, cnt_step, cnt_step, ih]
    have : (((n + F : Nat)) : Int) % c.frame = (n : Int) % c.frame := by
      rw [hF, Int.natCast_add, Int.add_emod_right]
    rw [this]
    omega
theorem leastTo_le_at (c : Config) (p : Int) (r n t : Nat) (m : Int) (h : t < n) : leastTo c p r m n ≤ cnt c p (t + r) - cnt c p t := by
  induction n with
  | zero => omega
  | succ n ih =>
    unfold leastTo
    by_cases e : t = n
    · subst e; omega
    · have := ih (by omega); omega
theorem leastTo_ge (c : Config) (p : Int) (r n : Nat) (m L : Int) (hm : L ≤ m) (h : ∀ t, t < n → L ≤ cnt c p (t + r) - cnt c p t) : L ≤ leastTo c p r m n := by
  induction n with
  | zero => exact hm
  | succ n ih =>
    unfold leastTo
    have := ih (fun t ht => h t (by omega))
    have := h n (by omega)
    omega
theorem leastTo_get (c : Config) (p : Int) (r n : Nat) (hn : 0 < n) : ∃ t, t < n ∧ leastTo c p r (cnt c p r) n = cnt c p (t + r) - cnt c p t := by
  have key : ∀ n, leastTo c p r (cnt c p r) n = cnt c p r ∨ ∃ t, t < n ∧ leastTo c p r (cnt c p r) n = cnt c p (t + r) - cnt c p t := by
    intro n
    induction n with
    | zero => exact .inl rfl
    | succ n ih =>
      unfold leastTo
      rcases Int.le_total (leastTo c p r (cnt c p r) n) (cnt c p (n + r) - cnt c p n) with h | h
      · rw [Int.min_eq_left h]
        rcases ih with e | ⟨t, ht, e⟩
        · exact .inl e
        · exact .inr ⟨t, by omega, e⟩
      · rw [Int.min_eq_right h]
        exact .inr ⟨n, by omega, rfl⟩
  rcases key n with e | h
  · exact ⟨0, hn, by rw [e, Nat.zero_add]; simp [cnt]⟩
  · exact h
/-- How many of L ticks from s on are a part's. -/
theorem leastN_le_at (c : Config) (p : Int) (F : Nat) (hF : c.frame = F) (h0 : 0 < F) (L s : Nat) : leastN c p L ≤ cnt c p (s + L) - cnt c p s := by
  have hper : ∀ k n, cnt c p (n + k * F) = cnt c p n + k * cnt c p F := by
    intro k
    induction k with
    | zero => intro n; simp
    | succ k ih =>
      intro n
      rw [Nat.succ_mul, ← Nat.add_assoc, cnt_period c p F hF, ih, Int.natCast_add, Int.add_mul]
      omega
  have hFt : c.frame.toNat = F := by rw [hF]; rfl
  unfold leastN
  rw [hFt]
  have hs : s = s % F + (s / F) * F := by have := Nat.mod_add_div' s F; omega
  have hL : L = L % F + (L / F) * F := by have := Nat.mod_add_div' L F; omega
  have e1 : cnt c p (s + L) = cnt c p (s % F + L % F) + ((s / F + L / F : Nat) : Int) * cnt c p F := by
    rw [← hper, Nat.add_mul]
    congr 1
    omega
  have e2 : cnt c p s = cnt c p (s % F) + ((s / F : Nat) : Int) * cnt c p F := by
    rw [← hper]
    congr 1
  have h1 := leastTo_le_at c p (L % F) F (s % F) (cnt c p (L % F)) (Nat.mod_lt _ h0)
  rw [e1, e2, Int.natCast_add, Int.add_mul]
  omega
theorem leastN_get (c : Config) (p : Int) (F : Nat) (hF : c.frame = F) (h0 : 0 < F) (L : Nat) : ∃ s, s < F ∧ leastN c p L = cnt c p (s + L) - cnt c p s := by
  have hper : ∀ k n, cnt c p (n + k * F) = cnt c p n + k * cnt c p F := by
    intro k
    induction k with
    | zero => intro n; simp
    | succ k ih =>
      intro n
      rw [Nat.succ_mul, ← Nat.add_assoc, cnt_period c p F hF, ih, Int.natCast_add, Int.add_mul]
      omega
  have hFt : c.frame.toNat = F := by rw [hF]; rfl
  obtain ⟨s, hs, e⟩ := leastTo_get c p (L % F) F h0
  refine ⟨s, hs, ?_⟩
  unfold leastN
  rw [hFt, e]
  have e1 : cnt c p (s + L) = cnt c p (s + L % F) + ((L / F : Nat) : Int) * cnt c p F := by
    rw [← hper]
    congr 1
    have := Nat.mod_add_div' L F
    omega
  rw [e1]
  omega
theorem leastN_step (c : Config) (p : Int) (F : Nat) (hF : c.frame = F) (h0 : 0 < F) (L : Nat) : leastN c p L ≤ leastN c p (L + 1) ∧ leastN c p (L + 1) ≤ leastN c p L + 1 := by
  obtain ⟨s, hs, e⟩ := leastN_get c p F hF h0 (L + 1)
  obtain ⟨t, ht, e'⟩ := leastN_get c p F hF h0 L
  have h1 := leastN_le_at c p F hF h0 L s
  have h2 := leastN_le_at c p F hF h0 (L + 1) t
  have h3 := cnt_mono c p (s + L) 1
  have h4 := cnt_slow c p (t + L) 1
  rw [Nat.add_assoc] at h3 h4
  omega
end Go.Proofs.Ythnecccakeminaa
