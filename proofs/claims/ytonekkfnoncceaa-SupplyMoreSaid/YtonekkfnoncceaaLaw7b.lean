/- The law SupplyWhole: of whole frames a part has its share of each. -/
import Derived.Test.YtonekkfnoncceaaLaw7a
import Derived.Test.YtonekkfnoncceaaRef7
set_option linter.unusedVariables false
set_option linter.unusedSimpArgs false
namespace Go.Proofs.Ytonekkfnoncceaa
open Go.RowKit

theorem leastTo_le (c : Config) (p : Int) (r n : Nat) (m : Int) : leastTo c p r m n ≤ m := by
  induction n with
  | zero => exact Int.le_refl _
  | succ n ih => unfold leastTo; omega
theorem leastTo_zero (c : Config) (p : Int) (n : Nat) : leastTo c p 0 0 n = 0 := by
  induction n with
  | zero => rfl
  | succ n ih => unfold leastTo; rw [ih]; simp
theorem cnt_mono (c : Config) (p : Int) (n r : Nat) : cnt c p n ≤ cnt c p (n + r) := by
  induction r with
  | zero => simp
  | succ r ih =>
    show cnt c p n ≤ cnt c p (n + r) + if ownerAt (((n + r : Nat) : Int) % c.frame) c.windows = p then 1 else 0
    split <;> omega
theorem leastTo_nonneg (c : Config) (p : Int) (r n : Nat) (m : Int) (hm : 0 ≤ m) : 0 ≤ leastTo c p r m n := by
  induction n with
  | zero => exact hm
  | succ n ih =>
    unfold leastTo
    have := cnt_mono c p n r
    omega
/-- The least supply of L ticks of a part that there is. -/
def leastN (c : Config) (p : Int) (L : Nat) : Int := ((L / c.frame.toNat : Nat) : Int) * cnt c p c.frame.toNat + leastTo c p (L % c.frame.toNat) (cnt c p (L % c.frame.toNat)) c.frame.toNat
theorem leastSpec_ok (c : Config) (p : Int) (L : Nat) (hk : checkCfg c = 0) (h0 : 0 ≤ p) (h1 : p < c.parts.length) (hL : L ≤ 4096) : leastSpec c p L = (leastN c p L, 0) := by
  have ho := check_ok hk
  obtain ⟨F, hF⟩ := Int.eq_ofNat_of_zero_le (show 0 ≤ c.frame by omega)
  unfold leastSpec leastN
  rw [if_neg (by omega), hF]
  simp only [Int.toNat_natCast]
  have e1 : ((L : Int) % (F : Int)).toNat = L % F := by omega
  have e2 : (L : Int) / (F : Int) = ((L / F : Nat) : Int) := by simp
  rw [e1, e2]
theorem leastN_shift (c : Config) (p : Int) (k R : Nat) (hF : 0 < c.frame.toNat) : leastN c p (R + k * c.frame.toNat) = leastN c p R + k * cnt c p c.frame.toNat := by
  unfold leastN
  rw [Nat.add_mul_div_right _ _ hF, Nat.add_mul_mod_self_right, Int.natCast_add, Int.add_mul]
  omega
theorem leastN_whole (c : Config) (p : Int) (k : Nat) (hF : 0 < c.frame.toNat) : leastN c p (k * c.frame.toNat) = k * cnt c p c.frame.toNat := by
  have h := leastN_shift c p k 0 hF
  rw [Nat.zero_add] at h
  rw [h]
  unfold leastN
  rw [Nat.zero_div, Nat.zero_mod]
  have : cnt c p 0 = 0 := rfl
  rw [this, leastTo_zero]
  simp
theorem leastN_le (c : Config) (p : Int) (R : Nat) : leastN c p R ≤ R := by
  unfold leastN
  have h1 := leastTo_le c p (R % c.frame.toNat) c.frame.toNat (cnt c p (R % c.frame.toNat))
  have h2 := (cnt_bd c p (R % c.frame.toNat)).2
  have h3 := (cnt_bd c p c.frame.toNat).2
  have h4 : ((R / c.frame.toNat : Nat) : Int) * cnt c p c.frame.toNat ≤ ((R / c.frame.toNat : Nat) : Int) * (c.frame.toNat : Int) := Int.mul_le_mul_of_nonneg_left h3 (Int.natCast_nonneg _)
  have h5 : ((R / c.frame.toNat * c.frame.toNat + R % c.frame.toNat : Nat) : Int) = R := by rw [Nat.div_add_mod']
  rw [Int.natCast_add, Int.natCast_mul] at h5
  omega
theorem leastN_nonneg (c : Config) (p : Int) (R : Nat) : 0 ≤ leastN c p R := by
  unfold leastN
  have h1 := leastTo_nonneg c p (R % c.frame.toNat) c.frame.toNat (cnt c p (R % c.frame.toNat)) (cnt_bd _ _ _).1
  have h2 : 0 ≤ ((R / c.frame.toNat : Nat) : Int) * cnt c p c.frame.toNat := Int.mul_nonneg (Int.natCast_nonneg _) (cnt_bd _ _ _).1
  omega

set_option maxRecDepth 100000 in
set_option maxHeartbeats 1600000 in
theorem supplyWhole_any (c : Config) (v : Value) (p fr re : Int) (w : World) (hc : CfgV w v c) :
    Calls Try.prog 4 #[v, .int .i64 p, .int .i64 fr, .int .i64 re] w fun e w' => e = .returned (.bool true) ∧ Below w.heap.size w w' := by
  obtain ⟨pv, wv, ov, rfl, hcfg⟩ := hc
  have HB0 := Lib.hid (balloc w (.cells #[.int .i64 c.frame, .int .i64 c.quiet, pv, wv, ov] 26))
  have HC0 := Lib.hid (cfg_box w c _ _ _ 26 hcfg)
  clear hcfg
  go_enter Try.func4, Try.ntmps4
  go_wp2_with fail
  refine (awake7_any _).mono ?_
  rintro e w1 ⟨rfl, hb1⟩
  have HB1 := Lib.hid (bthen HB0.out hb1)
  have HC1 := Lib.hid (HC0.out.ext (Ext.below hb1))
  clear hb1 HB0 HC0
  have z0 := HC1.out.c0; have z1 := HC1.out.c1; have z2 := HC1.out.c2; have z3 := HC1.out.c3; have z4 := HC1.out.c4; unfold IntAt at z0 z1
  go_wp2_with fail
  refine (refShareS_any c _ p _ ⟨_, _, _, rfl, HC1.out.is⟩).mono ?_
  rintro e w2 ⟨rfl, hb2⟩
  have HB2 := Lib.hid (bthen HB1.out hb2)
  have HC2 := Lib.hid (HC1.out.ext (Ext.below hb2))
  clear hb2 HB1 HC1 z0 z1 z2 z3 z4
  by_cases hs : checkCfg c = 0 ∧ 0 ≤ p ∧ p < c.parts.length
  · obtain ⟨hk, hp0, hp1⟩ := hs
    have hS : shareSpec c p = (shareOf p c.windows, 0) := by unfold shareSpec; rw [if_neg (by omega)]
    rw [hS]
    have ho := check_ok hk
    obtain ⟨o1, o2, -⟩ := ho
    obtain ⟨F, hF⟩ := Int.eq_ofNat_of_zero_le (show 0 ≤ c.frame by omega)
    have hFt : c.frame.toNat = F := by rw [hF]; rfl
    obtain ⟨k, hk7⟩ := Int.eq_ofNat_of_zero_le (show 0 ≤ bits BinOp.and IntKind.i64 fr 7 by rw [i64_and7]; omega)
    have hk8 : k ≤ 7 := by have := i64_and7 fr; omega
    obtain ⟨R, hr⟩ := Int.eq_ofNat_of_zero_le (show 0 ≤ bits BinOp.and IntKind.i64 re 255 by rw [i64_and255]; omega)
    have hr8 : R ≤ 255 := by have := i64_and255 re; omega
    have f1 : 1 ≤ F := by omega
    have f2 : F ≤ 256 := by omega
    have hkF : k * F ≤ 7 * 256 := Nat.mul_le_mul hk8 f2
    have hm1 : IntKind.i64.wrap ((k : Int) * (F : Int)) = ((k * F : Nat) : Int) := by rw [← Int.natCast_mul]; exact IntWalk.i64_in _ (by omega)
    have HM1 := Lib.hid hm1
    have S1 : Hid (leastSpec c p ((k : Int) * (F : Int)) = (leastN c p (k * F), 0)) := Lib.hid (by rw [← Int.natCast_mul]; exact leastSpec_ok c p (k * F) hk hp0 hp1 (by omega))
    have S2 := Lib.hid (leastSpec_ok c p R hk hp0 hp1 (by omega))
    have S3 : Hid (leastSpec c p ((R : Int) + (k : Int) * (F : Int)) = (leastN c p (R + k * F), 0)) := Lib.hid (by rw [← Int.natCast_mul, ← Int.natCast_add]; exact leastSpec_ok c p (R + k * F) hk hp0 hp1 (by omega))
    have hsh := cnt_share c p hp0 hk
    have A1 := leastN_whole c p k (by omega)
    have A2 := leastN_shift c p k R (by omega)
    rw [hFt] at hsh
    rw [hFt, hsh] at A1 A2
    have hsb := cnt_bd c p F
    rw [hsh] at hsb
    have A3 := leastN_le c p R
    have A4 := leastN_nonneg c p R
    have HA := Lib.hid (And.intro A1 (And.intro A2 A3))
    have HF := Lib.hid hF
    have s1 : 0 ≤ shareOf p c.windows := hsb.1
    have s2 : shareOf p c.windows ≤ 256 := by omega
    have hks0 : 0 ≤ (k : Int) * shareOf p c.windows := Int.mul_nonneg (by omega) s1
    have hks1 : (k : Int) * shareOf p c.windows ≤ 7 * 256 := Int.mul_le_mul (by omega) s2 s1 (by omega)
    have x1 : 0 ≤ leastN c p R := A4
    have x2 : leastN c p R ≤ 255 := by omega
    clear hS hsh A1 A2 A3 A4 hsb hk hm1 o1 o2 hFt hF
    have hm1 := HM1.out
    have z0 := HC2.out.c0; have z1 := HC2.out.c1; have z2 := HC2.out.c2; have z3 := HC2.out.c3; have z4 := HC2.out.c4; unfold IntAt at z0 z1
    have hm2 : IntKind.i64.wrap ((k : Int) * c.frame) = ((k * F : Nat) : Int) := by rw [HF.out]; exact HM1.out
    have hm3 : IntKind.i64.wrap ((R : Int) + ((k * F : Nat) : Int)) = ((R + k * F : Nat) : Int) := by rw [Int.natCast_add]; exact IntWalk.i64_in _ (by omega)
    go_wp2_with fail
    refine (least_any c _ p ((k : Int) * (F : Int)) _ ⟨_, _, _, rfl, HC2.out.is⟩).mono ?_
    rw [S1.out]
    rintro e w3 ⟨rfl, hb3⟩
    have HB3 := Lib.hid (bthen HB2.out hb3)
    have HC3 := Lib.hid (HC2.out.ext (Ext.below hb3))
    clear hb3 HB2 HC2 z0 z1 z2 z3 z4
    have z0 := HC3.out.c0; have z1 := HC3.out.c1; have z2 := HC3.out.c2; have z3 := HC3.out.c3; have z4 := HC3.out.c4; unfold IntAt at z0 z1
    go_wp2_with fail
    refine (least_any c _ p R _ ⟨_, _, _, rfl, HC3.out.is⟩).mono ?_
    rw [S2.out]
    rintro e w4 ⟨rfl, hb4⟩
    have HB4 := Lib.hid (bthen HB3.out hb4)
    have HC4 := Lib.hid (HC3.out.ext (Ext.below hb4))
    clear hb4 HB3 HC3 z0 z1 z2 z3 z4
    have z0 := HC4.out.c0; have z1 := HC4.out.c1; have z2 := HC4.out.c2; have z3 := HC4.out.c3; have z4 := HC4.out.c4; unfold IntAt at z0 z1
    go_wp2_with fail
    refine (least_any c _ p ((R : Int) + (k : Int) * (F : Int)) _ ⟨_, _, _, rfl, HC4.out.is⟩).mono ?_
    rw [S3.out]
    rintro e w5 ⟨rfl, hb5⟩
    have HB5 := Lib.hid (bthen HB4.out hb5)
    clear hb5 HB4 HC4 z0 z1 z2 z3 z4 hm1 hm2 hm3
    have e1 : (leastN c p (k * F) == (k : Int) * shareOf p c.windows) = true := beq_iff_eq.2 HA.out.1
    have e2 : (leastN c p (R + k * F) == leastN c p R + (k : Int) * shareOf p c.windows) = true := beq_iff_eq.2 HA.out.2.1
    have e3 : leastN c p R ≤ (R : Int) := HA.out.2.2
    go_wp2_with (first | (go_at_call 12; refine (num_any _ _).mono ?_; rintro e w' ⟨rfl, rfl⟩) | fail)
    go_ret
    exact ⟨ret_bool (by simp <;> omega), HB5.out⟩
  · have hS : shareSpec c p = (0, 600) := by unfold shareSpec; rw [if_pos (by omega)]
    rw [hS]
    clear hs hS
    go_wp2_with fail
    go_ret
    exact ⟨rfl, HB2.out⟩
end Go.Proofs.Ytonekkfnoncceaa
