/- What the reference answers of a tick's window and of the hyperperiod. -/
import Derived.Test.YtgpefejghhgnmaaRef5
import Derived.Test.YtgpefejghhgnmaaHyp
set_option linter.unusedVariables false
set_option linter.unusedSimpArgs false
namespace Go.Proofs.Ytgpefejghhgnmaa
open Go.RowKit

set_option maxRecDepth 100000 in
set_option maxHeartbeats 800000 in
theorem refWindow_any (c : Config) (v : Value) (t : Int) (w : World) (hc : CfgV w v c) (h0 : 1 ≤ c.frame) (hf : c.frame ≤ 256) (ht0 : 0 ≤ t) (ht : t ≤ 1000000000000000) :
    Calls Try.prog 24 #[v, .int .i64 t] w fun e w' => e = .returned (.int .i64 (ownerAt (t % c.frame) c.windows)) ∧ Below w.heap.size w w' := by
  obtain ⟨pv, wv, ov, rfl, hcfg⟩ := hc
  have HBX := Lib.hid (balloc w (.cells #[.int .i64 c.frame, .int .i64 c.quiet, pv, wv, ov] 26))
  have hcc := cfg_box w c _ _ _ 26 hcfg
  obtain ⟨wb, hwb⟩ : ∃ wb, wb = w.alloc (.cells #[.int .i64 c.frame, .int .i64 c.quiet, pv, wv, ov] 26) := ⟨_, rfl⟩
  obtain ⟨g, hg⟩ : ∃ g, g = w.heap.size := ⟨_, rfl⟩
  rw [← hwb, ← hg] at hcc
  rw [← hwb] at HBX
  obtain ⟨wa, wcap, rfl, hw1, hw2, hw3, hw4⟩ := hcc.is.windows
  have HW := Lib.hid hw4
  have hl1 : c.windows.length ≤ 1000000000000000 := by omega
  have HC := Lib.hid hcc
  clear hw4 hcc hcfg
  go_enter Try.func24, Try.ntmps24
  go_wp2_with fail
  rw [← hwb, ← hg]
  clear hwb hg
  obtain ⟨m, hm⟩ : ∃ m, m = t % c.frame := ⟨_, rfl⟩
  rw [← hm]
  have HM := Lib.hid hm
  clear hm
  go_loop [6] (fun i => ∃ (k : Nat), k ≤ c.windows.length ∧ i = .int .i64 k ∧ Hid (ownerAt m c.windows = ownerAt m (c.windows.drop k))) (fun i => c.windows.length - (intOf i).toNat)
  case atStart => exact ⟨0, by omega, rfl, Lib.hid (by simp)⟩
  case round =>
    obtain ⟨k, hk, rfl, HD⟩ := hrel
    have z3 := HC.out.c3
    by_cases hlt : k < c.windows.length
    · obtain ⟨b, off, rfl, hcell⟩ := HW.out (by intro h; rw [h] at hlt; simp at hlt)
      obtain ⟨y0, y1, y2⟩ := hcell k hlt
      unfold IntAt at y0 y1 y2
      clear hcell
      have hstep := ownerAt_step m c.windows k hlt
      rw [← HD.out] at hstep
      have HS := Lib.hid hstep
      clear hstep HD
      go_wp2_with fail
      all_goals first
        | (go_ret
           exact ⟨ret_int (by rw [← HM.out, HS.out, if_pos (by omega)]), HBX.out⟩)
        | (go_round
           case rel => exact ⟨k + 1, by omega, by go_num, Lib.hid (by rw [HS.out, if_neg (by omega)])⟩
           case measure => simp [intOf]; omega)
    · have hfin : ownerAt m c.windows = -1 := by
        rw [HD.out, List.drop_of_length_le (by omega)]; rfl
      have HFn := Lib.hid hfin
      clear hfin HD
      go_wp2_with fail
      go_ret
      exact ⟨ret_int (by rw [← HM.out]; exact HFn.out.symm), HBX.out⟩
set_option maxRecDepth 100000 in
set_option maxHeartbeats 800000 in
theorem refAt_any (c : Config) (v : Value) (t : Int) (w : World) (hc : CfgV w v c) :
    Calls Try.prog 10 #[v, .int .i64 t] w fun e w' => e = .returned (.tuple #[.int .i64 (atSpec c t).1, .int .i64 (atSpec c t).2]) ∧ Below w.heap.size w w' := by
  obtain ⟨pv, wv, ov, rfl, hcfg⟩ := hc
  have HC := Lib.hid hcfg
  clear hcfg
  go_enter Try.func10, Try.ntmps10
  go_wp2_with fail
  refine (refCheck_any c _ _ ⟨_, _, _, rfl, HC.out.ext (Ext.alloc _ _)⟩).mono ?_
  rintro e w1 ⟨rfl, hb1⟩
  have HB1 := Lib.hid (bthen (balloc _ _) hb1)
  have HX := Lib.hid ((cfg_box w c _ _ _ 26 HC.out).ext (Ext.below hb1))
  have z0 := HX.out.c0; have z1 := HX.out.c1; have z2 := HX.out.c2; have z3 := HX.out.c3; have z4 := HX.out.c4; unfold IntAt at z0 z1
  clear hb1
  by_cases hk : checkCfg c = 0
  · have e1 : (checkCfg c != 0) = false := by rw [hk]; rfl
    have hok := check_ok hk
    obtain ⟨o1, o2, -⟩ := hok
    by_cases ht : t < 0 ∨ t > 1099511627776
    · have HS : Hid (atSpec c t = (0, 600)) := Lib.hid (by unfold atSpec; rw [if_pos (Or.inr ht)])
      have HP := Lib.hid ht
      clear hk ht
      go_wp2_with fail
      all_goals first
        | (go_ret2; exact ⟨ret_pair HS.out, HB1.out⟩)
        | (exfalso; have := HP.out; omega)
    · have HS : Hid (atSpec c t = (ownerAt (t % c.frame) c.windows, 0)) := Lib.hid (by unfold atSpec; rw [if_neg (by omega)])
      have t0 : 0 ≤ t := by omega
      have t1 : t ≤ 1099511627776 := by omega
      clear hk ht
      go_wp2_with fail
      refine (refWindow_any c _ t _ ⟨_, _, _, rfl, HX.out.is⟩ o1 o2 t0 (by omega)).mono ?_
      rintro e w2 ⟨rfl, hb2⟩
      go_wp2_with fail
      go_ret2
      exact ⟨ret_pair HS.out, bthen HB1.out hb2⟩
  · have HS : Hid (atSpec c t = (0, 600)) := Lib.hid (by unfold atSpec; rw [if_pos (Or.inl hk)])
    have e1 : (checkCfg c != 0) = true := by simpa using hk
    clear hk
    go_wp2_with fail
    go_ret2
    exact ⟨ret_pair HS.out, HB1.out⟩
set_option maxRecDepth 100000 in
set_option maxHeartbeats 400000 in
theorem refGcd_any (a b : Nat) (ha : a < 18446744073709551616) (hb : b < 18446744073709551616) (w : World) :
    Calls Try.prog 47 #[.int .u64 a, .int .u64 b] w fun e w' => e = .returned (.int .u64 (Nat.gcd a b : Nat)) ∧ w' = w := by
  go_enter Try.func47, Try.ntmps47
  go_wp2_with fail
  go_loop [0, 1, 5] (fun u v _ => ∃ x y : Nat, u = .int .u64 x ∧ v = .int .u64 y ∧ x < 18446744073709551616 ∧ y < 18446744073709551616 ∧ Hid (Nat.gcd a b = Nat.gcd x y)) (fun _ v _ => (intOf v).toNat)
  case atStart => exact ⟨a, b, rfl, rfl, ha, hb, Lib.hid rfl⟩
  case round =>
    obtain ⟨x, y, rfl, rfl, hx, hy, HG⟩ := hrel
    rcases Nat.eq_zero_or_pos y with h0 | h0
    · subst h0
      have HX : Hid (Nat.gcd a b = x) := Lib.hid (by rw [HG.out, Nat.gcd_zero_right])
      clear HG
      go_wp2_with fail
      go_ret
      exact ⟨ret_int (by rw [HX.out]), rfl⟩
    · have h1 : (0 : Int) < (y : Int) := by omega
      have e0 : ((y : Int) == 0) = false := by simp; omega
      have e1 : ((y : Int) != 0) = true := by simp; omega
      have e2 : y ≠ 0 := by omega
      have hlt : x % y < y := Nat.mod_lt _ h0
      have hm : (x : Int).tmod (y : Int) = ((x % y : Nat) : Int) := by rw [Int.tmod_eq_emod_of_nonneg (by omega)]; rfl
      have hm2 : (x : Int) % (y : Int) = ((x % y : Nat) : Int) := rfl
      obtain ⟨m, hmm⟩ : ∃ m, x % y = m := ⟨_, rfl⟩
      rw [hmm] at hm hm2 hlt
      have HM := Lib.hid hmm
      clear hmm
      have hw : IntKind.u64.wrap (m : Int) = (m : Int) := wrapN _ (by omega)
      go_wp2_with fail
      go_round
      case rel => exact ⟨y, m, rfl, rfl, hy, by omega, Lib.hid (by rw [HG.out, ← HM.out, Nat.gcd_comm x y, Nat.gcd_rec y x, Nat.gcd_comm])⟩
      case measure => simp [intOf]; omega
theorem mul_over (a b : Nat) (ha : 0 < a) (hb : b < 18446744073709551616) : (a * b % 18446744073709551616 / a = b) ↔ a * b < 18446744073709551616 := by
  constructor
  · intro h
    have h1 := Nat.div_mul_le_self (a * b % 18446744073709551616) a
    rw [h, Nat.mul_comm] at h1
    have := Nat.mod_lt (a * b) (show 18446744073709551616 > 0 by omega)
    omega
  · intro h
    rw [Nat.mod_eq_of_lt h, Nat.mul_div_cancel_left _ ha]
set_option maxRecDepth 100000 in
set_option maxHeartbeats 400000 in
theorem refMul_any (x y : Nat) (hx : x < 18446744073709551616) (hy : y < 18446744073709551616) (h0 : 0 < x) (w : World) :
    Calls Try.prog 46 #[.int .u64 x, .int .u64 y] w fun e w' => e = .returned (.tuple #[.int .u64 (mulSpec x y).1, .int .i64 (mulSpec x y).2]) ∧ w' = w := by
  obtain ⟨p, hp⟩ : ∃ p : Nat, x * y % 18446744073709551616 = p := ⟨_, rfl⟩
  obtain ⟨q, hq⟩ : ∃ q : Nat, p / x = q := ⟨_, rfl⟩
  have hov := mul_over x y h0 hy
  rw [hp, hq] at hov
  have p1 : p < 18446744073709551616 := by rw [← hp]; exact Nat.mod_lt _ (by omega)
  have hqp : q ≤ p := by rw [← hq]; exact Nat.div_le_self _ _
  have m1 : IntKind.u64.wrap ((x : Int) * (y : Int)) = (p : Int) := by rw [mulN, wrapM, hp]
  have m1' : (x : Int) * (y : Int) % 18446744073709551616 = (p : Int) := by rw [mulN, ← hp]; rfl
  have d1 : (p : Int).tdiv (x : Int) = (q : Int) := by rw [Int.tdiv_eq_ediv_of_nonneg (by omega), ← hq]; rfl
  have d2 : (p : Int) / (x : Int) = (q : Int) := by rw [← hq]; rfl
  have d3 : IntKind.u64.wrap (q : Int) = (q : Int) := wrapN _ (by omega)
  have e0 : ((x : Int) == 0) = false := by simp; omega
  have e1 : ((x : Int) != 0) = true := by simp; omega
  have e2 : x ≠ 0 := by omega
  have HP := Lib.hid hp
  by_cases ho : x * y < 18446744073709551616
  · have HS : Hid (mulSpec x y = ((p : Int), 0)) := Lib.hid (by
      unfold mulSpec two64
      rw [if_pos ho, ← HP.out, Nat.mod_eq_of_lt ho])
    have hqy : q = y := hov.2 ho
    have n1 : ((q : Int) != (y : Int)) = false := by rw [hqy]; simp
    clear hov ho hp hq hqy
    go_enter Try.func46, Try.ntmps46
    go_wp2_with fail
    go_ret2
    exact ⟨ret_pair HS.out, rfl⟩
  · have HS : Hid (mulSpec x y = (0, 100)) := Lib.hid (by
      unfold mulSpec two64
      rw [if_neg ho])
    have n1 : ((q : Int) != (y : Int)) = true := by
      have : q ≠ y := fun e => ho (hov.1 e)
      simp; omega
    clear hov ho hp hq
    go_enter Try.func46, Try.ntmps46
    go_wp2_with fail
    go_ret2
    exact ⟨ret_pair HS.out, rfl⟩
set_option maxRecDepth 100000 in
set_option maxHeartbeats 400000 in
theorem refLcm_any (a b : Nat) (ha : a < 18446744073709551616) (hb : b < 18446744073709551616) (h0 : 0 < a) (h1 : 0 < b) (w : World) :
    Calls Try.prog 27 #[.int .u64 a, .int .u64 b] w fun e w' => e = .returned (.tuple #[.int .u64 (lcmSpec a b).1, .int .i64 (lcmSpec a b).2]) ∧ w' = w := by
  have HL : Hid (lcmSpec a b = mulSpec (a / Nat.gcd a b) b) := Lib.hid (by unfold lcmSpec; rw [if_neg (by omega)])
  have hg : 0 < Nat.gcd a b := Nat.gcd_pos_of_pos_left _ h0
  have hq : a / Nat.gcd a b ≤ a := Nat.div_le_self _ _
  have hq0 : 0 < a / Nat.gcd a b := Nat.div_pos (Nat.gcd_le_left _ h0) hg
  have e1 : ((a : Int) == 0) = false := by simp; omega
  have e2 : ((b : Int) == 0) = false := by simp; omega
  obtain ⟨g, hgg⟩ : ∃ g, Nat.gcd a b = g := ⟨_, rfl⟩
  have HG := Lib.hid (refGcd_any a b ha hb w)
  rw [hgg] at HG HL hg hq hq0
  obtain ⟨q, hqq⟩ : ∃ q, a / g = q := ⟨_, rfl⟩
  rw [hqq] at HL hq hq0
  have d1 : (a : Int).tdiv (g : Int) = (q : Int) := by rw [Int.tdiv_eq_ediv_of_nonneg (by omega), ← hqq]; rfl
  have d2 : (a : Int) / (g : Int) = (q : Int) := by rw [← hqq]; rfl
  have d3 : IntKind.u64.wrap (q : Int) = (q : Int) := wrapN _ (by omega)
  have d4 : ((g : Int) == 0) = false := by simp; omega
  have d5 : g ≠ 0 := by omega
  clear hgg hqq
  go_enter Try.func27, Try.ntmps27
  go_wp2_with fail
  refine HG.out.mono ?_
  rintro e w1 ⟨rfl, rfl⟩
  go_wp2_with fail
  refine (refMul_any q b (by omega) hb hq0 _).mono ?_
  rw [← HL.out]
  rintro e w2 ⟨rfl, rfl⟩
  go_wp2_with fail
  go_ret2
  exact ⟨rfl, rfl⟩
set_option maxRecDepth 100000 in
set_option maxHeartbeats 1600000 in
theorem refHyper_any (c : Config) (v : Value) (w : World) (hc : CfgV w v c) :
    Calls Try.prog 14 #[v] w fun e w' => e = .returned (.tuple #[.int .u64 (hyperSpec c).1, .int .i64 (hyperSpec c).2]) ∧ Below w.heap.size w w' := by
  obtain ⟨pv, wv, ov, rfl, hcfg⟩ := hc
  have HC := Lib.hid hcfg
  obtain ⟨pa, pcap, rfl, hp1, hp2, hp3, hp4⟩ := hcfg.parts
  have HW := Lib.hid hp4
  clear hp4 hcfg
  obtain ⟨g, hg⟩ : ∃ g, g = w.heap.size := ⟨_, rfl⟩
  go_enter Try.func14, Try.ntmps14
  go_wp2_with fail
  rw [← hg]
  refine (refCheck_any c _ _ ⟨_, _, _, rfl, HC.out.ext (Ext.alloc _ _)⟩).mono ?_
  rintro e w1 ⟨rfl, hb1⟩
  have HB1 := Lib.hid (bthen (balloc _ _) hb1)
  have hx := (cfg_box w c _ _ _ 26 HC.out).ext (Ext.below hb1)
  rw [← hg] at hx
  have HX := Lib.hid hx
  have z0 := HX.out.c0; have z1 := HX.out.c1; have z2 := HX.out.c2; have z3 := HX.out.c3; have z4 := HX.out.c4; unfold IntAt at z0 z1
  clear hb1 hg hx
  by_cases hk : checkCfg c = 0
  · have e1 : (checkCfg c != 0) = false := by rw [hk]; rfl
    have ho := check_ok hk
    have HTK := Lib.hid (check_tasks hk)
    obtain ⟨o1, o2, -⟩ := ho
    obtain ⟨F, hF⟩ := Int.eq_ofNat_of_zero_le (show 0 ≤ c.frame by omega)
    have HS : Hid (hyperSpec c = match hyP F c.parts with | some x => ((x : Int), 0) | none => (0, 100)) := Lib.hid (by unfold hyperSpec; rw [if_neg (by omega), hF]; rfl)
    have hl1 : c.parts.length ≤ 8 := by have := check_ok hk; omega
    rw [hF] at z0 o1 o2
    clear hk
    have f1 : 0 < F := by omega
    have f2 : F ≤ 256 := by omega
    have hcv : IntKind.u64.wrap (F : Int) = (F : Int) := wrapN _ (by omega)
    clear hF
    go_wp2_with fail
    clear z0 z1 z2 z3 z4 hcv
    obtain ⟨wo, rfl⟩ : ∃ wo : World, wo = w1 := ⟨_, rfl⟩
    have z2 := HX.out.c2
    go_loop [4, 5, 6, 7, 8] (fun o i _ _ _ => ∃ (k x : Nat), k ≤ c.parts.length ∧ i = .int .i64 k ∧ o = .int .u64 x ∧ 0 < x ∧ x < 18446744073709551616 ∧ Hid (hyP F c.parts = hyP x (c.parts.drop k))) (fun _ i _ _ _ => c.parts.length - (intOf i).toNat)
    case atStart => exact ⟨0, F, by omega, rfl, rfl, f1, by omega, Lib.hid (by simp)⟩
    case round =>
      obtain ⟨k, x, hk, rfl, rfl, hx1, hx2, HD⟩ := hrel
      by_cases hlt : k < c.parts.length
      · obtain ⟨b, off, rfl, hcell⟩ := HW.out (by intro h; rw [h] at hlt; simp at hlt)
        obtain ⟨y0, tv, cv, y1, y2, hpi⟩ := PartAt.ext (Ext.below HB1.out) (hcell k hlt)
        unfold IntAt at y0
        clear hcell
        have hpt := HTK.out c.parts[k] (List.getElem_mem hlt)
        obtain ⟨ta, tcap, rfl, ht1, ht2, ht3, ht4⟩ := hpi.tasks
        have HV := Lib.hid ht4
        have htl := hpt.1
        have HPT := Lib.hid hpt.2
        have hstep := hyP_step x c.parts k hlt
        rw [← HD.out] at hstep
        have HSt := Lib.hid hstep
        clear hstep HD hpi ht4 hpt
        go_wp2_with fail
        go_loop [4, 6, 7, 8] (fun o j _ _ => ∃ (m y : Nat), m ≤ c.parts[k].tasks.length ∧ j = .int .i64 m ∧ o = .int .u64 y ∧ 0 < y ∧ y < 18446744073709551616 ∧ Hid (hyT x c.parts[k].tasks = hyT y (c.parts[k].tasks.drop m))) (fun _ j _ _ => c.parts[k].tasks.length - (intOf j).toNat)
        case atStart => exact ⟨0, x, by omega, rfl, rfl, hx1, hx2, Lib.hid (by simp)⟩
        case round =>
          obtain ⟨m, y, hm, rfl, rfl, hy1, hy2, HG⟩ := hrel
          by_cases hml : m < c.parts[k].tasks.length
          · obtain ⟨tb, toff, rfl, htc⟩ := HV.out (by intro h; rw [h] at hml; simp at hml)
            obtain ⟨q0, q1, q2, q3, q4, q5⟩ := htc m hml
            unfold IntAt at q0 q1 q2 q3 q4 q5
            clear htc
            have htm := HPT.out c.parts[k].tasks[m] (List.getElem_mem hml)
            unfold taskMay at htm
            rw [decide_eq_true_eq] at htm
            obtain ⟨D, hD⟩ := Int.eq_ofNat_of_zero_le (show 0 ≤ c.parts[k].tasks[m].period by omega)
            have d1 : 0 < D := by omega
            have d2 : D ≤ 1024 := by omega
            rw [hD] at q1
            have hst := hyT_step y c.parts[k].tasks m hml
            rw [← HG.out, hD, Int.toNat_natCast] at hst
            have HST := Lib.hid hst
            have HD2 := Lib.hid hD
            clear hst HG htm hD
            have hcv : IntKind.u64.wrap (D : Int) = (D : Int) := wrapN _ (by omega)
            go_wp2_with fail
            refine (refLcm_any y D hy2 (by omega) hy1 d1 _).mono ?_
            rw [lcmSpec_O y D hy1 d1]
            cases hl : lcmO y D with
            | none =>
              rintro e w3 ⟨rfl, hw3⟩
              subst w3
              have HL := Lib.hid hl
              clear hl
              go_wp2_with fail
              go_ret2
              exact ⟨ret_pair (by rw [HS.out, HSt.out, HST.out, HL.out]; rfl), HB1.out⟩
            | some z =>
              rintro e w3 ⟨rfl, hw3⟩
              subst w3
              have hzz := lcmO_pos hy1 d1 hl
              have HL := Lib.hid hl
              clear hl
              go_wp2_with fail
              go_round
              case rel => exact ⟨m + 1, z, by omega, by go_num, rfl, hzz.1, hzz.2, Lib.hid (by rw [HST.out, HL.out]; rfl)⟩
              case measure => simp [intOf]; omega
          · have hfin : hyT x c.parts[k].tasks = some y := by
              rw [HG.out, List.drop_of_length_le (by omega)]; rfl
            have HF2 := Lib.hid hfin
            clear hfin HG
            go_wp2_with fail
            go_round
            case rel => exact ⟨k + 1, y, by omega, by go_num, rfl, hy1, hy2, Lib.hid (by rw [HSt.out, HF2.out]; rfl)⟩
            case measure => simp [intOf]; omega
      · have hfin : hyP F c.parts = some x := by
          rw [HD.out, List.drop_of_length_le (by omega)]; rfl
        have HF2 := Lib.hid hfin
        clear hfin HD
        go_wp2_with fail
        go_ret2
        exact ⟨ret_pair (by rw [HS.out, HF2.out]), HB1.out⟩
  · have HS : Hid (hyperSpec c = (0, 600)) := Lib.hid (by unfold hyperSpec; rw [if_pos hk])
    have e1 : (checkCfg c != 0) = true := by simpa using hk
    clear hk
    go_wp2_with fail
    go_ret2
    exact ⟨ret_pair HS.out, HB1.out⟩
end Go.Proofs.Ytgpefejghhgnmaa
