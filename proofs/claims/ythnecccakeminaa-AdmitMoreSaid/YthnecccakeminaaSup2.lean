/- What supply.Least answers. -/
import Derived.Test.YthnecccakeminaaSup1
import Derived.IntWalk
set_option linter.unusedVariables false
set_option linter.unusedSimpArgs false
namespace Go.Proofs.Ythnecccakeminaa
open Go.RowKit

theorem leastTo_bd (c : Config) (part : Int) (r : Nat) (m : Int) (n : Nat) (h : -100000 ≤ m ∧ m ≤ 100000) (hr : r ≤ 256) (hn : n ≤ 256) : -100000 ≤ leastTo c part r m n ∧ leastTo c part r m n ≤ 100000 := by
  induction n with
  | zero => exact h
  | succ n ih =>
    have h1 := ih (by omega)
    have h2 := cnt_bd c part (n + r)
    have h3 := cnt_bd c part n
    unfold leastTo
    omega

theorem min_if (a b : Int) : (if b < a then b else a) = min a b := by
  split <;> omega

set_option maxRecDepth 100000 in
set_option maxHeartbeats 1000000 in
theorem least_any (c : Config) (v : Value) (p len : Int) (w : World) (hc : CfgV w v c) :
    Calls Try.prog 23 #[v, .int .i64 p, .int .i64 len] w fun e w' => e = .returned (.tuple #[.int .i64 (leastSpec c p len).1, .int .i64 (leastSpec c p len).2]) ∧ Below w.heap.size w w' := by
  obtain ⟨pv, wv, ov, rfl, hcfg⟩ := hc
  have HC := Lib.hid hcfg
  obtain ⟨pa, pcap, rfl, hp1, hp2, hp3, hp4⟩ := hcfg.parts
  clear hp4 hcfg
  go_enter Try.func23, Try.ntmps23
  go_wp2_with fail
  refine (check_any c _ _ ⟨_, _, ov, rfl, HC.out.ext (Ext.alloc _ _)⟩).mono ?_
  rintro e w1 ⟨rfl, hb1⟩
  have hbox := (cfg_box w c _ _ _ 26 HC.out).ext (Ext.below hb1)
  have HB1 := Lib.hid (bthen (balloc _ _) hb1)
  have HX := Lib.hid hbox
  have z0 := hbox.c0
  have z2 := hbox.c2
  unfold IntAt at z0
  clear hb1 hbox
  by_cases hk : checkCfg c = 0
  · obtain ⟨o1, o2, -⟩ := check_ok hk
    have e1 : (checkCfg c != 0) = false := by rw [hk]; rfl
    by_cases hp : p < 0 ∨ p ≥ c.parts.length ∨ len < 0 ∨ len > 4096
    · have HS : Hid (leastSpec c p len = (0, 700)) := Lib.hid (by unfold leastSpec; rw [if_pos (Or.inr hp)])
      have HP := Lib.hid hp
      clear hk hp
      go_wp2_with fail
      all_goals first
        | (go_ret2; exact ⟨ret_pair HS.out, HB1.out⟩)
        | (exfalso; have := HP.out; omega)
    · have HS : Hid (leastSpec c p len = (len / c.frame * cnt c p c.frame.toNat + leastTo c p (len % c.frame).toNat (cnt c p (len % c.frame).toNat) c.frame.toNat, 0)) := Lib.hid (by unfold leastSpec; rw [if_neg (by omega)])
      have p0 : 0 ≤ p := by omega
      have p1 : p < c.parts.length := by omega
      have p2 : 0 ≤ len := by omega
      have p3 : len ≤ 4096 := by omega
      have HK := Lib.hid hk
      clear hk hp
      go_wp2_with fail
      refine (sums_any _ c p w1 HX.out.p HK.out).mono ?_
      rintro e w2 ⟨q, cap, rfl, hq, hcap, hcm, hcell, hb2⟩
      have HB2 := Lib.hid (bthen HB1.out hb2)
      have hX2 := HX.out.ext (Ext.below hb2)
      have z0' := hX2.c0
      unfold IntAt at z0'
      obtain ⟨F, hF⟩ := Int.eq_ofNat_of_zero_le (show 0 ≤ c.frame by omega)
      obtain ⟨L, rfl⟩ := Int.eq_ofNat_of_zero_le p2
      have hFt : c.frame.toNat = F := by rw [hF]; rfl
      have hmod : ((L : Int) % c.frame).toNat = L % F := by rw [hF]; omega
      rw [hFt] at hcell hcap
      rw [hFt] at HS ⊢
      rw [hmod] at HS
      rw [hF] at z0' o1 o2
      have HF := Lib.hid hF
      have HCell := Lib.hid hcell
      have hrF : L % F < F := Nat.mod_lt _ (by omega)
      clear z0 z2 hb2 hX2 HX hF hFt hmod hcell
      obtain ⟨r, hr⟩ : ∃ r : Nat, L % F = r := ⟨_, rfl⟩
      rw [hr] at HS hrF
      have hmi : (L : Int) % (F : Int) = (r : Int) := by rw [← hr]; omega
      have HR := Lib.hid hr
      clear hr
      have r0 : w2.cell? ⟨q, r, none⟩ = some (.int .i64 (cnt c p r)) := HCell.out _ (by omega)
      have hbr := cnt_bd c p r
      have f1 : 1 ≤ F := by omega
      have f2 : F ≤ 256 := by omega
      have l2 : L ≤ 4096 := by omega
      clear o1 o2 p2 p3
      go_wp2_with fail
      clear r0
      go_loopw [10, 11, 46] (fun m _ i wr => ∃ (k : Nat), k ≤ F ∧ i = .int .i64 k ∧ m = .int .i64 (leastTo c p r (cnt c p r) k) ∧ Below w2.heap.size w2 wr) (fun _ _ i _ => F - (intOf i).toNat)
      case atStart => exact ⟨0, by omega, rfl, rfl, Below.refl _ _⟩
      case round =>
        obtain ⟨k, hk, rfl, rfl, hB⟩ := hrel
        have HB := Lib.hid hB
        have x0 := Ext.below hB _ _ z0'
        have hbl := leastTo_bd c p r (cnt c p r) k (by omega) (by omega) (by omega)
        by_cases hlt : k < F
        · have q1 := Ext.below hB _ _ (HCell.out (k + r) (by omega))
          have q2 := Ext.below hB _ _ (HCell.out k (by omega))
          have b1 := cnt_bd c p (k + r)
          have b2 := cnt_bd c p k
          have HE := Lib.hid (show leastTo c p r (cnt c p r) (k + 1) = min (leastTo c p r (cnt c p r) k) (cnt c p (k + r) - cnt c p k) from rfl)
          have s1 : IntKind.i64.wrap ((k : Int) + r) = (k : Int) + r := IntWalk.i64_in _ (by omega)
          have s2 : (0 : Int) ≤ (k : Int) + r := by omega
          have s3 : ((k : Int) + r).toNat = k + r := by omega
          have s4 : IntKind.i64.wrap (cnt c p (k + r) - cnt c p k) = cnt c p (k + r) - cnt c p k := IntWalk.i64_in _ (by omega)
          have s5 : k < 2 * F + 1 := by omega
          have s6 : k + r < 2 * F + 1 := by omega
          clear hB
          go_wp2_with fail
          go_quiet (fail)
          go_wp2_with fail
          go_roundw
          case rel => exact ⟨k + 1, by omega, by go_num, by rw [HE.out, min_if], below_drewN HB.out _⟩
          case measure => simp [intOf]; omega
        · obtain rfl : k = F := by omega
          have q2 := Ext.below hB _ _ (HCell.out k (by omega))
          have b2 := cnt_bd c p k
          have hdiv1 : 0 ≤ (L : Int) / (k : Int) := Int.ediv_nonneg (by omega) (by omega)
          have hdiv2 : (L : Int) / (k : Int) ≤ L := Int.ediv_le_self _ (by omega)
          have hm1 : 0 ≤ (L : Int) / (k : Int) * cnt c p k := Int.mul_nonneg hdiv1 b2.1
          have hm2 : (L : Int) / (k : Int) * cnt c p k ≤ 4096 * 256 := Int.mul_le_mul (by omega) (by omega) b2.1 (by omega)
          have s1 : IntKind.i64.wrap ((L : Int) / (k : Int) * cnt c p k) = (L : Int) / (k : Int) * cnt c p k := IntWalk.i64_in _ (by omega)
          have s2 : IntKind.i64.wrap ((L : Int) / (k : Int) * cnt c p k + leastTo c p r (cnt c p r) k) = (L : Int) / (k : Int) * cnt c p k + leastTo c p r (cnt c p r) k := IntWalk.i64_in _ (by omega)
          have s3 : IntKind.i64.wrap ((L : Int) / (k : Int)) = (L : Int) / (k : Int) := IntWalk.i64_in _ (by omega)
          have s4 : (L : Int).tdiv (k : Int) = (L : Int) / (k : Int) := Int.tdiv_eq_ediv_of_nonneg (by omega)
          have s5 : k < 2 * k + 1 := by omega
          have s6 : ((k : Int) == 0) = false := by simp; omega
          clear hB
          go_wp2_with fail
          go_quiet (fail)
          go_wp2_with fail
          go_ret2
          exact ⟨ret_pair (by rw [HS.out, HF.out]), bthen HB2.out (below_drewN HB.out _)⟩
  · have HS : Hid (leastSpec c p len = (0, 700)) := Lib.hid (by unfold leastSpec; rw [if_pos (Or.inl hk)])
    have e1 : (checkCfg c != 0) = true := by simpa using hk
    clear hk
    go_wp2_with fail
    go_ret2
    exact ⟨ret_pair HS.out, HB1.out⟩
end Go.Proofs.Ythnecccakeminaa
