/- The law SupplyLeast: the least supply is the least over all begins. -/
import Derived.Test.YtonekkfnoncceaaLeast
set_option linter.unusedVariables false
set_option linter.unusedSimpArgs false
namespace Go.Proofs.Ytonekkfnoncceaa
open Go.RowKit

theorem leastTo_full (c : Config) (p : Int) (F : Nat) (hF : c.frame = F) (h0 : 0 < F) (K : Nat) : leastTo c p K ((K : Int) + 1) F = leastN c p K := by
  obtain ⟨s, hs, e⟩ := leastN_get c p F hF h0 K
  have h1 := leastTo_le_at c p K F s ((K : Int) + 1) hs
  have h2 := leastTo_ge c p K F ((K : Int) + 1) (leastN c p K) (by have := leastN_le c p K; omega) (fun t _ => leastN_le_at c p F hF h0 K t)
  omega
theorem leastTo_over (c : Config) (p : Int) (F : Nat) (hF : c.frame = F) (h0 : 0 < F) (K n : Nat) : leastN c p K ≤ leastTo c p K ((K : Int) + 1) n :=
  leastTo_ge c p K n ((K : Int) + 1) (leastN c p K) (by have := leastN_le c p K; omega) (fun t _ => leastN_le_at c p F hF h0 K t)
theorem atSpec_ok (c : Config) (F n : Nat) (hk : checkCfg c = 0) (hn : n ≤ 1000) (hF : c.frame = F) : atSpec c (n : Int) = (ownerAt ((n : Int) % (F : Int)) c.windows, 0) := by
  unfold atSpec
  rw [if_neg (by omega), hF]
set_option maxRecDepth 100000 in
set_option maxHeartbeats 1600000 in
theorem supplyLeast_any (c : Config) (v : Value) (p le fr : Int) (w : World) (hc : CfgV w v c) :
    Calls Try.prog 8 #[v, .int .i64 p, .int .i64 le, .int .i64 fr] w fun e w' => e = .returned (.bool true) ∧ Below w.heap.size w w' := by
  obtain ⟨pv, wv, ov, rfl, hcfg⟩ := hc
  have HB0 := Lib.hid (balloc w (.cells #[.int .i64 c.frame, .int .i64 c.quiet, pv, wv, ov] 26))
  have HC0 := Lib.hid (cfg_box w c _ _ _ 26 hcfg)
  obtain ⟨g, hg⟩ : ∃ g, g = w.heap.size := ⟨_, rfl⟩
  clear hcfg
  go_enter Try.func8, Try.ntmps8
  go_wp2_with fail
  refine (awake7_any _).mono ?_
  rintro e w1 ⟨rfl, hb1⟩
  have HB1 := Lib.hid (bthen HB0.out hb1)
  have HC1 := Lib.hid (HC0.out.ext (Ext.below hb1))
  rw [← hg] at HC1
  rw [← hg]
  clear hb1 HB0 HC0
  obtain ⟨K, hK⟩ := Int.eq_ofNat_of_zero_le (show 0 ≤ bits BinOp.and IntKind.i64 le 511 by rw [i64_and511]; omega)
  have hK8 : K ≤ 511 := by have := i64_and511 le; omega
  obtain ⟨J, hJ⟩ := Int.eq_ofNat_of_zero_le (show 0 ≤ bits BinOp.and IntKind.i64 fr 255 by rw [i64_and255]; omega)
  have HG := Lib.hid hg
  clear hg
  have z0 := HC1.out.c0; have z1 := HC1.out.c1; have z2 := HC1.out.c2; have z3 := HC1.out.c3; have z4 := HC1.out.c4; unfold IntAt at z0 z1
  go_wp2_with fail
  refine (least_any c _ p K _ ⟨_, _, _, rfl, HC1.out.is⟩).mono ?_
  rintro e w2 ⟨rfl, hb2⟩
  have HB2 := Lib.hid (bthen HB1.out hb2)
  have HC2 := Lib.hid (HC1.out.ext (Ext.below hb2))
  clear hb2 HB1 HC1 z0 z1 z2 z3 z4
  by_cases hs : checkCfg c = 0 ∧ 0 ≤ p ∧ p < c.parts.length
  · obtain ⟨hk, hp0, hp1⟩ := hs
    have ho := check_ok hk
    obtain ⟨o1, o2, -⟩ := ho
    obtain ⟨F, hF⟩ := Int.eq_ofNat_of_zero_le (show 0 ≤ c.frame by omega)
    have f1 : 1 ≤ F := by omega
    have f2 : F ≤ 256 := by omega
    rw [leastSpec_ok c p K hk hp0 hp1 (by omega)]
    have S2 : Hid (leastSpec c p ((K : Int) + 1) = (leastN c p (K + 1), 0)) := Lib.hid (leastSpec_ok c p (K + 1) hk hp0 hp1 (by omega))
    have A1 := leastN_step c p F hF (by omega) K
    have A2 := leastN_le c p K
    have A3 := leastN_nonneg c p K
    have HK := Lib.hid hk
    have HF := Lib.hid hF
    clear hk o1 o2 hF
    have z0 := HC2.out.c0; have z1 := HC2.out.c1; have z2 := HC2.out.c2; have z3 := HC2.out.c3; have z4 := HC2.out.c4; unfold IntAt at z0 z1
    go_wp2_with (first | (go_at_call 12; refine (num_any _ _).mono ?_; rintro e w' ⟨rfl, hw⟩; subst w') | fail)
    refine (least_any c _ p ((K : Int) + 1) _ ⟨_, _, _, rfl, HC2.out.is⟩).mono ?_
    rw [S2.out]
    rintro e w3 ⟨rfl, hb3⟩
    have HB3 := Lib.hid (bthen HB2.out hb3)
    have HC3 := Lib.hid (HC2.out.ext (Ext.below hb3))
    clear hb3 HB2 HC2 z0 z1 z2 z3 z4 S2
    go_wp2_with (first | (go_at_call 12; refine (num_any _ _).mono ?_; rintro e w' ⟨rfl, hw⟩; subst w') | fail)
    clear A1
    go_loopw [14, 15, 16, 17, 18, 19] (fun m s _ _ _ _ wr => ∃ (k : Nat), k ≤ F ∧ s = .int .i64 k ∧ m = .int .i64 (leastTo c p K ((K : Int) + 1) k) ∧ Below w3.heap.size w3 wr) (fun _ s _ _ _ _ _ => F - (intOf s).toNat)
    case atStart => exact ⟨0, by omega, rfl, rfl, Below.refl _ _⟩
    case round =>
      obtain ⟨k, hkF, rfl, rfl, hB⟩ := hrel
      have HB := Lib.hid (bthen HB3.out hB)
      have HC := Lib.hid (HC3.out.ext (Ext.below hB))
      have HB' := Lib.hid hB
      clear hB
      have z0 := HC.out.c0; have z1 := HC.out.c1; have z2 := HC.out.c2; have z3 := HC.out.c3; have z4 := HC.out.c4; unfold IntAt at z0 z1
      rw [HF.out] at z0
      have hov := leastTo_over c p F HF.out (by omega) K k
      have hbl : leastTo c p K ((K : Int) + 1) k ≤ K + 1 := leastTo_le c p K k _
      by_cases hlt : k < F
      · go_wp2_with fail
        clear z0 z1 z2 z3 z4
        go_loopw [16, 17, 18, 19] (fun n i _ _ wq => ∃ (j : Nat), j ≤ K ∧ i = .int .i64 j ∧ n = .int .i64 (cnt c p (k + j) - cnt c p k) ∧ Below wr.heap.size wr wq) (fun _ i _ _ _ => K - (intOf i).toNat)
        case atStart => exact ⟨0, by omega, rfl, by simp, Below.refl _ _⟩
        case round =>
          obtain ⟨j, hjK, rfl, rfl, hB⟩ := hrel
          have HBj := Lib.hid hB
          have HCj := Lib.hid (HC.out.ext (Ext.below hB))
          clear hB
          have b1 := cnt_mono c p k j
          have b2 := cnt_slow c p k j
          by_cases hjl : j < K
          · have z0 := HCj.out.c0; have z1 := HCj.out.c1; have z2 := HCj.out.c2; have z3 := HCj.out.c3; have z4 := HCj.out.c4; unfold IntAt at z0 z1
            have s1 : IntKind.i64.wrap ((k : Int) + (j : Int)) = ((k + j : Nat) : Int) := by rw [← Int.natCast_add]; exact IntWalk.i64_in _ (by omega)
            go_wp2_with fail
            refine (at_any c _ ((k + j : Nat) : Int) _ ⟨_, _, _, rfl, HCj.out.is⟩).mono ?_
            rw [atSpec_ok c F (k + j) HK.out (by omega) HF.out]
            rintro e w4 ⟨rfl, hb4⟩
            have HB4 := Lib.hid (bthen HBj.out hb4)
            have hst := cnt_step c p (k + j)
            rw [HF.out] at hst
            clear hb4 z0 z1 z2 z3 z4 s1
            obtain ⟨o, hoe⟩ : ∃ o, ownerAt (((k + j : Nat) : Int) % (F : Int)) c.windows = o := ⟨_, rfl⟩
            rw [hoe] at hst
            rw [hoe]
            clear hoe
            by_cases he : o = p
            · rw [if_pos he] at hst
              have HS : Hid (cnt c p (k + (j + 1)) - cnt c p k = cnt c p (k + j) - cnt c p k + 1) := Lib.hid (by rw [← Nat.add_assoc, hst]; omega)
              have e1 : (o == p) = true := beq_iff_eq.2 he
              clear hst he
              go_wp2_with (first | (go_at_call 12; refine (num_any _ _).mono ?_; rintro e w' ⟨rfl, hw⟩; subst w') | fail)
              go_roundw
              case rel => exact ⟨j + 1, by omega, by go_num, by rw [HS.out], HB4.out⟩
              case measure => simp [intOf]; omega
            · rw [if_neg he] at hst
              have HS : Hid (cnt c p (k + (j + 1)) - cnt c p k = cnt c p (k + j) - cnt c p k) := Lib.hid (by rw [← Nat.add_assoc, hst]; omega)
              have e1 : (o == p) = false := beq_eq_false_iff_ne.2 he
              clear hst he
              go_wp2_with (first | (go_at_call 12; refine (num_any _ _).mono ?_; rintro e w' ⟨rfl, hw⟩; subst w') | fail)
              go_roundw
              case rel => exact ⟨j + 1, by omega, by go_num, by rw [HS.out], HB4.out⟩
              case measure => simp [intOf]; omega
          · obtain rfl : j = K := by omega
            have HE := Lib.hid (show leastTo c p j ((j : Int) + 1) (k + 1) = min (leastTo c p j ((j : Int) + 1) k) (cnt c p (k + j) - cnt c p k) from rfl)
            have hov2 := leastTo_over c p F HF.out (by omega) j (k + 1)
            rw [HE.out] at hov2
            rw [Int.min_def] at hov2
            go_wp2_with fail
            all_goals first
              | (go_roundw
                 case rel => exact ⟨k + 1, by omega, by go_num, by rw [HE.out, min_if], bthen HB'.out HBj.out⟩
                 case measure => simp [intOf]; omega)
              | (go_ret
                 exact ⟨ret_bool (by simp <;> (try split) <;> omega), bthen HB.out HBj.out⟩)
      · obtain rfl : k = F := by omega
        have hfull := leastTo_full c p k HF.out (by omega) K
        rw [hfull]
        go_wp2_with fail
        all_goals
          go_ret
          exact ⟨ret_bool (by simp <;> omega), HB.out⟩
  · have hS : leastSpec c p (K : Int) = (0, 700) := by unfold leastSpec; rw [if_pos (by omega)]
    rw [hS]
    clear hs hS
    go_wp2_with (first | (go_at_call 12; refine (num_any _ _).mono ?_; rintro e w' ⟨rfl, hw⟩; subst w') | fail)
    go_ret
    exact ⟨rfl, HB2.out⟩
end Go.Proofs.Ytonekkfnoncceaa
