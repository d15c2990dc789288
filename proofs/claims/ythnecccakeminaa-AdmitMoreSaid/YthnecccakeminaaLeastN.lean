/- The least supply as a count. -/
import Derived.Test.YthnecccakeminaaSup2
set_option linter.unusedVariables false
set_option linter.unusedSimpArgs false
namespace Go.Proofs.Ythnecccakeminaa
open Go.RowKit

theorem leastTo_le (c : Config) (p : Int) (r n : Nat) (m : Int) : leastTo c p r m n ≤ m := by
  induction n with
  | zero => exact Int.le_refl _
  | succ n ih => unfold leastTo; omega
theorem leastTo_zero (c : Config) (p : Int) (n : Nat) : leastTo c p 0 0 n = 0 := by
  induction n with
  | zero => rfl
  | succ n ih => unfold leastTo; rw [ih]; simp
theorem cnt_mono (c : Config) (p : Int) (n r : Nat) : cnt c p n ≤ cnt c p (n + r) := by
  induction r with
  | zero => simp
  | succ r ih =>
    show cnt c p n ≤ cnt c p (n + r) + if ownerAt (((n + r : Nat) : Int) % c.frame) c.windows = p then 1 else 0
    split <;> omega
theorem leastTo_nonneg (c : Config) (p : Int) (r n : Nat) (m : Int) (hm : 0 ≤ m) : 0 ≤ leastTo c p r m n := by
  induction n with
  | zero => exact hm
  | succ n ih =>
    unfold leastTo
    have := cnt_mono c p n r
    omega
/-- The least supply of L ticks of a part that there is. -/
def leastN (c : Config) (p : Int) (L : Nat) : Int := ((L / c.frame.toNat : Nat) : Int) * cnt c p c.frame.toNat + leastTo c p (L % c.frame.toNat) (cnt c p (L % c.frame.toNat)) c.frame.toNat
theorem leastSpec_ok (c : Config) (p : Int) (L : Nat) (hk : checkCfg c = 0) (h0 : 0 ≤ p) (h1 : p < c.parts.length) (hL : L ≤ 4096) : leastSpec c p L = (leastN c p L, 0) := by
  have ho := check_ok hk
  obtain ⟨F, hF⟩ := Int.eq_ofNat_of_zero_le (show 0 ≤ c.frame by omega)
  unfold leastSpec leastN
  rw [if_neg (by omega), hF]
  simp only [Int.toNat_natCast]
  have e1 : ((L : Int) % (F : Int)).toNat = L % F := by omega
  have e2 : (L : Int) / (F : Int) = ((L / F : Nat) : Int) := by simp
  rw [e1, e2]
theorem leastN_shift (c : Config) (p : Int) (k R : Nat) (hF : 0 < c.frame.toNat) : leastN c p (R + k * c.frame.toNat) = leastN c p R + k * cnt c p c.frame.toNat := by
  unfold leastN
  rw [Nat.add_mul_div_right _ _ hF, Nat.add_mul_mod_self_right, Int.natCast_add, Int.add_mul]
  omega
theorem leastN_whole (c : Config) (p : Int) (k : Nat) (hF : 0 < c.frame.toNat) : leastN c p (k * c.frame.toNat) = k * cnt c p c.frame.toNat := by
  have h := leastN_shift c p k 0 hF
  rw [Nat.zero_add] at h
  rw [h]
  unfold leastN
  rw [Nat.zero_div, Nat.zero_mod]
  have : cnt c p 0 = 0 := rfl
  rw [this, leastTo_zero]
  simp
theorem leastN_le (c : Config) (p : Int) (R : Nat) : leastN c p R ≤ R := by
  unfold leastN
  have h1 := leastTo_le c p (R % c.frame.toNat) c.frame.toNat (cnt c p (R % c.frame.toNat))
  have h2 := (cnt_bd c p (R % c.frame.toNat)).2
  have h3 := (cnt_bd c p c.frame.toNat).2
  have h4 : ((R / c.frame.toNat : Nat) : Int) * cnt c p c.frame.toNat ≤ ((R / c.frame.toNat : Nat) : Int) * (c.frame.toNat : Int) := Int.mul_le_mul_of_nonneg_left h3 (Int.natCast_nonneg _)
  have h5 : ((R / c.frame.toNat * c.frame.toNat + R % c.frame.toNat : Nat) : Int) = R := by rw [Nat.div_add_mod']
  rw [Int.natCast_add, Int.natCast_mul] at h5
  omega
theorem leastN_nonneg (c : Config) (p : Int) (R : Nat) : 0 ≤ leastN c p R := by
  unfold leastN
  have h1 := leastTo_nonneg c p (R % c.frame.toNat) c.frame.toNat (cnt c p (R % c.frame.toNat)) (cnt_bd _ _ _).1
  have h2 : 0 ≤ ((R / c.frame.toNat : Nat) : Int) * cnt c p c.frame.toNat := Int.mul_nonneg (Int.natCast_nonneg _) (cnt_bd _ _ _).1
  omega
end Go.Proofs.Ythnecccakeminaa
