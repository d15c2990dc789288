/- Chapter 14's law JobForms. -/
import Derived.Test.YtbkhnlacabaagaaLaw14a
set_option linter.unusedVariables false
set_option linter.unusedSimpArgs false
namespace Go.Proofs.Ytbkhnlacabaagaa
open Go.RowKit

theorem mod_u64 (z : Int) (n : Nat) (hn : 0 < n) : ∃ m : Nat, (IntKind.u64.wrap z).tmod (n : Int) = (m : Int) ∧ m < n := by
  obtain ⟨q, hq⟩ := Int.eq_ofNat_of_zero_le (show 0 ≤ IntKind.u64.wrap z by rw [IntKind.wrap_u64]; omega)
  rw [hq]
  exact ⟨q % n, by rw [Int.tmod_eq_emod_of_nonneg (by omega)]; rfl, Nat.mod_lt _ hn⟩
theorem i64_and63 (x : Int) : bits .and .i64 x 63 = x % 64 := by simpa using i64_mask 6 (by decide) x
set_option maxRecDepth 100000 in
set_option maxHeartbeats 1000000 in
/-- two, told by its block. -/
theorem two_blk (l : Int) (w : World) : Calls Try.prog 18 #[.int .i64 l] w fun e w' => ∃ g, e = .returned (.agg #[.int .i64 l, .slice (some ⟨g, 0, none⟩) 2 2, .slice none 0 0]) ∧ w.heap.size ≤ g ∧ w'.heap[g]? = some (.cells #[.int .i64 0, .int .i64 10, .int .i64 8, .int .i64 2, .int .i64 2, .int .i64 5, .int .i64 1, .int .i64 6, .int .i64 6, .int .i64 3, .int .i64 3, .int .i64 1] 50 (0, 0)) ∧ Below w.heap.size w w' := by
  obtain ⟨wa, hw_wa⟩ : ∃ wa, wa = w.alloc (.cells #[.int .i64 0, .slice none 0 0, .slice none 0 0] 25) := ⟨_, rfl⟩
  obtain ⟨ga, hg_ga⟩ : ∃ ga, ga = w.heap.size := ⟨_, rfl⟩
  have hb_wa : Below w.heap.size w wa := by rw [hw_wa]; exact balloc _ _
  have hk_ga : wa.heap[ga]? = some (.cells #[.int .i64 0, .slice none 0 0, .slice none 0 0] 25 (0, 0)) := by rw [hw_wa, hg_ga]; exact blk_new _ _
  have hs_wa : wa.heap.size = w.heap.size + 1 := by rw [hw_wa]; simp
  subst hg_ga
  obtain ⟨wb, hw_wb⟩ : ∃ wb, wb = wa.alloc (.cells #[.int .i64 0, .int .i64 10, .int .i64 8, .int .i64 2, .int .i64 2, .int .i64 5, .int .i64 1, .int .i64 6, .int .i64 6, .int .i64 3, .int .i64 3, .int .i64 1] 50) := ⟨_, rfl⟩
  obtain ⟨gb, hg_gb⟩ : ∃ gb, gb = wa.heap.size := ⟨_, rfl⟩
  have hb_wb : Below wa.heap.size wa wb := by rw [hw_wb]; exact balloc _ _
  have hk_gb : wb.heap[gb]? = some (.cells #[.int .i64 0, .int .i64 10, .int .i64 8, .int .i64 2, .int .i64 2, .int .i64 5, .int .i64 1, .int .i64 6, .int .i64 6, .int .i64 3, .int .i64 3, .int .i64 1] 50 (0, 0)) := by rw [hw_wb, hg_gb]; exact blk_new _ _
  have hs_wb : wb.heap.size = wa.heap.size + 1 := by rw [hw_wb]; simp
  rw [hs_wa] at hg_gb
  subst hg_gb
  have hka := keep_at hk_ga hb_wb
  obtain ⟨wz, hw_wz⟩ : ∃ wz, wz = put3 wb w.heap.size (.int .i64 l) (.slice (some ⟨w.heap.size + 1, 0, none⟩) 2 2) (.slice none 0 0) := ⟨_, rfl⟩
  have hk_wz := put3_at hka (.int .i64 l) (.slice (some ⟨w.heap.size + 1, 0, none⟩) 2 2) (.slice none 0 0)
  have hg_wz := put3_grown wb w.heap.size (.int .i64 l) (.slice (some ⟨w.heap.size + 1, 0, none⟩) 2 2) (.slice none 0 0)
  rw [← hw_wz] at hk_wz hg_wz
  unfold put3 at hw_wz
  have o_wz_0 := BlockIs.of hka 0 _ rfl
  have o_wz_1 := BlockIs.of hka 1 _ rfl
  have o_wz_2 := BlockIs.of hka 2 _ rfl
  have f_wz := thaw hka
  have e_wz_0 := BlockIs.of hk_wz 0 _ rfl
  have e_wz_1 := BlockIs.of hk_wz 1 _ rfl
  have e_wz_2 := BlockIs.of hk_wz 2 _ rfl
  have hkb := (hg_wz.block _ (lt_of_block hk_gb) (fun q => by injection q with q; omega)).trans hk_gb
  have HB := Lib.hid (bput (bthen hb_wa hb_wb) hg_wz (Nat.le_refl _) (Nat.le_refl _))
  have HK := Lib.hid hkb
  clear hb_wa hb_wb hka hk_ga hk_gb hkb hg_wz hk_wz hs_wa hs_wb
  go_enter Try.func18, Try.ntmps18
  go_wp2_with (first | (rw [← hw_wa, ← hw_wb]; clear hw_wa hw_wb) | (rw [← hw_wz]; clear hw_wz))
  refine bodyPost_ret (v := .agg #[.int .i64 l, .slice (some ⟨w.heap.size + 1, 0, none⟩) 2 2, .slice none 0 0]) (by simp [results, Try.results18, go_sem, e_wz_0, e_wz_1, e_wz_2]) rfl ⟨_, rfl, by omega, HK.out, HB.out⟩
theorem newBad_idx (i : Int) (p : Part) (h : i < 0 ∨ 8 ≤ i) : newBad i p = true := by
  unfold newBad
  rw [decide_eq_true_iff]
  rcases h with h | h
  · exact .inl h
  · exact .inr (.inl h)
theorem newBad_lvl (i l : Int) (h : 2 ≤ l) : newBad i (twoP l) = true := by
  unfold newBad
  rw [decide_eq_true_iff]
  refine .inr (.inr (fun e => ?_))
  have := (check_parts e).2.2.1 (twoP l) (by simp [alone])
  have h1 := this.1
  unfold levelMay twoP at h1
  simp only [decide_eq_true_eq] at h1
  omega
def fo0 : LSt := newL 0 (twoP 1)
def foP : Nat → LSt
  | 0 => fo0
  | k + 1 => pickSt (foP k) 1 3 3
theorem fo0_bad (i d now : Int) (h : i < 0 ∨ 2 ≤ i ∨ clockB now = false) : pickErr fo0 i d now = 1400 ∧ pickEv fo0 i d now = [] := by
  have h1 : pickErr fo0 i d now = 1400 := by
    unfold pickErr
    rw [if_pos]
    rcases h with h | h | h
    · exact .inl h
    · exact .inr (.inl (by show (2 : Int) ≤ i; exact h))
    · exact .inr (.inr h)
  exact ⟨h1, by unfold pickEv; rw [h1]; rfl⟩
theorem fo0_dem (d : Int) (h : d ≤ 0) : pickErr fo0 1 d 3 = 1100 ∧ pickEv fo0 1 d 3 = [] := by
  have h1 : pickErr fo0 1 d 3 = 1100 := by
    unfold pickErr
    rw [if_neg (by decide)]
    unfold pickE
    rw [if_pos]
    rw [Bool.and_eq_false_iff]
    right
    unfold demP
    rw [decide_eq_false_iff_not]
    omega
  exact ⟨h1, by unfold pickEv; rw [h1]; rfl⟩
theorem clockNo (x : Int) (h : x < 0 ∨ 1099511627776 < x) : clockB x = false := by
  unfold clockB
  rw [decide_eq_false_iff_not]
  omega
/-- What is asked for. -/
def foAsk (m : Nat) (d : Int) : Int × Int × Int × Int := match m with
  | 0 => (1 + d, 5, 3, 1400)
  | 1 => (-d, 5, 3, 1400)
  | 2 => (1, 5, -d, 1400)
  | 3 => (1, 5, 1099511627776 + d, 1400)
  | 4 => (1, 1 - d, 3, 1100)
  | _ => (1, 5, 3, 1101)
def foSt (m : Nat) : LSt := if m < 5 then fo0 else foP 4
theorem fo_ask (m : Nat) (d : Int) (hm : m < 6) (h1 : 1 ≤ d) (h2 : d ≤ 64) : pickErr (foSt m) (foAsk m d).1 (foAsk m d).2.1 (foAsk m d).2.2.1 = (foAsk m d).2.2.2 ∧ pickEv (foSt m) (foAsk m d).1 (foAsk m d).2.1 (foAsk m d).2.2.1 = [] := by
  match m, hm with
  | 0, _ => exact fo0_bad _ _ _ (.inr (.inl (by show 2 ≤ 1 + d; omega)))
  | 1, _ => exact fo0_bad _ _ _ (.inl (by show -d < 0; omega))
  | 2, _ => exact fo0_bad _ _ _ (.inr (.inr (clockNo _ (.inl (by show -d < 0; omega)))))
  | 3, _ => exact fo0_bad _ _ _ (.inr (.inr (clockNo _ (.inr (by show 1099511627776 < 1099511627776 + d; omega)))))
  | 4, _ => exact fo0_dem _ (by show 1 - d ≤ 0; omega)
  | 5, _ => exact ⟨by kernel_rfl, by kernel_rfl⟩
set_option maxRecDepth 100000 in
set_option maxHeartbeats 16000000 in
theorem jobForms_any (wh x : Int) (w : World) :
    Calls Try.prog 5 #[.int .i64 wh, .int .i64 x] w fun e w' => e = .returned (.bool true) ∧ Below w.heap.size w w' := by
  obtain ⟨y, hy⟩ := Int.eq_ofNat_of_zero_le (show 0 ≤ bits BinOp.and IntKind.i64 x 63 by rw [i64_and63]; omega)
  have hy1 : y ≤ 63 := by have := i64_and63 x; omega
  obtain ⟨m, hm0, hm1⟩ := mod_u64 wh 6 (by decide)
  rw [show ((6 : Nat) : Int) = 6 from rfl] at hm0
  have hw1 : IntKind.u64.wrap (m : Int) = (m : Int) := by rw [IntKind.wrap_u64]; omega
  have hd1 : IntKind.i64.wrap (1 + (y : Int)) = 1 + (y : Int) := by rw [IntKind.wrap_i64]; omega
  have hd2 : IntKind.i64.wrap (-(1 + (y : Int))) = -(1 + (y : Int)) := by rw [IntKind.wrap_i64]; omega
  have hd3 : IntKind.i64.wrap (7 + (1 + (y : Int))) = 7 + (1 + (y : Int)) := by rw [IntKind.wrap_i64]; omega
  have hd4 : IntKind.i64.wrap (1 + (1 + (y : Int))) = 1 + (1 + (y : Int)) := by rw [IntKind.wrap_i64]; omega
  have hd5 : IntKind.i64.wrap (1099511627776 + (1 + (y : Int))) = 1099511627776 + (1 + (y : Int)) := by rw [IntKind.wrap_i64]; omega
  have hd6 : IntKind.i64.wrap (1 - (1 + (y : Int))) = 1 - (1 + (y : Int)) := by rw [IntKind.wrap_i64]; omega
  go_enter Try.func5, Try.ntmps5
  go_wp2_with fail
  refine (awake14 _).mono ?_
  rintro e w1 ⟨rfl, hb⟩
  have HB1 := Lib.hid hb
  clear hb
  go_wp2_with fail
  refine (two_any 1 _).mono ?_
  rintro e v1 ⟨tv1, cv1, rfl, hp, hb⟩
  have HBV1 := Lib.hid (bthen HB1.out hb)
  have HP := Lib.hid hp
  clear hp hb HB1
  go_wp2_with fail
  refine (new_no (-(1 + (y : Int))) (twoP 1) tv1 cv1 _ HP.out (newBad_idx _ _ (.inl (by omega)))).mono ?_
  rintro e w2 ⟨rfl, hb⟩
  have HB2 := Lib.hid (bthen HBV1.out hb)
  clear hb HBV1 HP
  go_wp2_with fail
  refine (two_any 1 _).mono ?_
  rintro e v2 ⟨tv2, cv2, rfl, hp, hb⟩
  have HBV2 := Lib.hid (bthen HB2.out hb)
  have HP := Lib.hid hp
  clear hp hb HB2
  go_wp2_with fail
  refine (new_no (7 + (1 + (y : Int))) (twoP 1) tv2 cv2 _ HP.out (newBad_idx _ _ (.inr (by omega)))).mono ?_
  rintro e w3 ⟨rfl, hb⟩
  have HB3 := Lib.hid (bthen HBV2.out hb)
  clear hb HBV2 HP
  go_wp2_with fail
  refine (two_any (1 + (1 + (y : Int))) _).mono ?_
  rintro e v3 ⟨tv3, cv3, rfl, hp, hb⟩
  have HBV3 := Lib.hid (bthen HB3.out hb)
  have HP := Lib.hid hp
  clear hp hb HB3
  go_wp2_with fail
  refine (new_no 0 (twoP (1 + (1 + (y : Int)))) tv3 cv3 _ HP.out (newBad_lvl _ _ (by omega))).mono ?_
  rintro e w4 ⟨rfl, hb⟩
  have HB4 := Lib.hid (bthen HBV3.out hb)
  clear hb HBV3 HP
  go_wp2_with fail
  refine (two_blk 0 _).mono ?_
  rintro e v4 ⟨g, rfl, hg, hk, hb⟩
  obtain ⟨v5, hw_v5⟩ : ∃ v5, v5 = v4.alloc (.cells #[.int .i64 0, .slice (some ⟨g, 0, none⟩) 2 2, .slice none 0 0] 25) := ⟨_, rfl⟩
  obtain ⟨gp, hg_gp⟩ : ∃ gp, gp = v4.heap.size := ⟨_, rfl⟩
  have hb_v5 : Below v4.heap.size v4 v5 := by rw [hw_v5]; exact balloc _ _
  have hk_gp : v5.heap[gp]? = some (.cells #[.int .i64 0, .slice (some ⟨g, 0, none⟩) 2 2, .slice none 0 0] 25 (0, 0)) := by rw [hw_v5, hg_gp]; exact blk_new _ _
  have hs_v5 : v5.heap.size = v4.heap.size + 1 := by rw [hw_v5]; simp
  have HBV := Lib.hid (bthen HB4.out (bthen hb hb_v5))
  have HKG := Lib.hid (keep_at hk hb_v5)
  have HKP := Lib.hid hk_gp
  have HGG := Lib.hid (show w.heap.size ≤ g ∧ g < gp from ⟨Nat.le_trans HB4.out.size hg, by rw [hg_gp]; exact lt_of_block hk⟩)
  subst hg_gp
  clear hg hk hb hb_v5 hk_gp hs_v5
  go_wp2_with fail
  rw [← hw_v5]
  clear hw_v5
  refine region_tail 9 (by kernel_rfl) (by kernel_rfl) ?_
  intro wy hy hby
  have hkg := keep_at HKG.out hby
  have hkp := keep_at HKP.out hby
  have p0 := BlockIs.of hkp 0 _ rfl
  have p1 := BlockIs.of hkp 1 _ rfl
  have p2 := BlockIs.of hkp 2 _ rfl
  have t11 := BlockIs.of hkg 11 _ rfl
  have t5 := BlockIs.of hkg 5 _ rfl
  have ft := thaw hkg 5
  obtain ⟨v6, hv6⟩ : ∃ v6, v6 = wy.setCell ⟨g, 5, none⟩ (.int .i64 1) := ⟨_, rfl⟩
  have hg6 : wy.grownBy v6 (some g) := by rw [hv6]; exact set_grown _ _ _ _
  have hk6 := blk_set hkg 5 (.int .i64 1)
  rw [← hv6] at hk6
  simp only [List.setIfInBounds_toArray, List.set_cons_succ, List.set_cons_zero] at hk6
  have hkp6 := (hg6.block _ (lt_of_block hkp) (fun q => by injection q with q; have := HGG.out; omega)).trans hkp
  have HB6 := Lib.hid (bput (bthen HBV.out hby) hg6 HGG.out.1 (Nat.le_refl _))
  have HP6 := Lib.hid (show PartIs v6 (.slice (some ⟨g, 0, none⟩) 2 2) (.slice none 0 0) ⟨0, [⟨0, 10, 8, 2, 2, 1⟩, ⟨1, 6, 6, 3, 3, 1⟩], []⟩ from ⟨slice2 (by decide) ⟨BlockIs.of hk6 0 _ rfl, BlockIs.of hk6 1 _ rfl, BlockIs.of hk6 2 _ rfl, BlockIs.of hk6 3 _ rfl, BlockIs.of hk6 4 _ rfl, BlockIs.of hk6 5 _ rfl⟩ ⟨BlockIs.of hk6 6 _ rfl, BlockIs.of hk6 7 _ rfl, BlockIs.of hk6 8 _ rfl, BlockIs.of hk6 9 _ rfl, BlockIs.of hk6 10 _ rfl, BlockIs.of hk6 11 _ rfl⟩, slice0 _ _ _ _⟩)
  have q0 := BlockIs.of hkp6 0 _ rfl
  have q1 := BlockIs.of hkp6 1 _ rfl
  have q2 := BlockIs.of hkp6 2 _ rfl
  clear hy hby hkg hkp hg6 hk6 hkp6
  simp only [List.take_succ_cons, List.take_zero, List.drop_succ_cons, List.drop_zero]
  repeat still_step
  refine wpStill_nil ?_
  go_wp2_with (rw [← hv6]; clear hv6 p0 p1 p2 t11 t5 ft)
  refine (new_no 0 ⟨0, [⟨0, 10, 8, 2, 2, 1⟩, ⟨1, 6, 6, 3, 3, 1⟩], []⟩ _ _ _ HP6.out (by kernel_rfl)).mono ?_
  rintro e w5 ⟨rfl, hb⟩
  have HB5 := Lib.hid (bthen HB6.out hb)
  clear hb q0 q1 q2 HP6 HB6 HBV HKG HKP
  go_wp2_with fail
  refine (two_any 1 _).mono ?_
  rintro e w6 ⟨tv6, cv6, rfl, hp, hb⟩
  have HB6 := Lib.hid (bthen HB5.out hb)
  have HP := Lib.hid hp
  clear hp hb HB5
  go_wp2_with fail
  refine (new_is 0 (twoP 1) tv6 cv6 _ HP.out (by kernel_rfl)).mono ?_
  rintro e w7 ⟨b, rfl, hl, hb⟩
  have HL7 := Lib.hid (show LocIs w7 b w6.heap.size fo0 0 from hl)
  have HLO := Lib.hid (show w.heap.size ≤ w6.heap.size from HB6.out.size)
  have HB7 := Lib.hid (bthen HB6.out hb)
  obtain ⟨lo, hlo⟩ : ∃ lo, lo = w6.heap.size := ⟨_, rfl⟩
  rw [← hlo] at HL7 HLO
  clear hl hb HP HB6 hlo
  have HASK := Lib.hid (fo_ask m (1 + (y : Int)) hm1 (by omega) (by omega))
  have HC1 := Lib.hid (clockNo (-(1 + (y : Int))) (.inl (by omega)))
  have HC2 := Lib.hid (clockNo (1099511627776 + (1 + (y : Int))) (.inr (by omega)))
  rcases (show m = 0 ∨ m = 1 ∨ m = 2 ∨ m = 3 ∨ m = 4 ∨ m = 5 by omega) with rfl | rfl | rfl | rfl | rfl | rfl
  rotate_right
  · go_wp2_with (first | (go_at_call 12; refine (num_any _ _).mono ?_; rintro e w' ⟨rfl, hw⟩; subst w') | fail)
    go_loopw [21] (fun i wr => ∃ k : Nat, k ≤ 4 ∧ i = .int .i64 k ∧ Hid (LocIs wr b lo (foP k) 0) ∧ Hid (Below w.heap.size w wr)) (fun i _ => 4 - (intOf i).toNat)
    case atStart => exact ⟨0, by omega, rfl, HL7, HB7⟩
    case round =>
      obtain ⟨k, hk4, rfl, HLk, HBk⟩ := hrel
      by_cases hlt : k < 4
      · have c1 : (k : Int) < 4 := by omega
        go_wp2_with fail
        refine (pick_is b lo (foP k) 0 1 3 3 _ HLk.out).mono ?_
        rintro e w8 ⟨ra, rn, rc, rfl, hl, hr, hk⟩
        have HL8 := Lib.hid (show LocIs w8 b lo (foP (k + 1)) 0 from hl)
        have HB8 := Lib.hid (HBk.out.trans (hk.below.mono HLO.out))
        clear hl hr hk
        go_wp2_with fail
        go_roundw
        case rel => exact ⟨k + 1, by omega, by go_num, HL8, HB8⟩
        case measure => simp [intOf]; omega
      · obtain rfl : k = 4 := by omega
        go_wp2_with fail
        refine (pick_is b lo (foP 4) 0 1 5 3 _ HLk.out).mono ?_
        rintro e w8 ⟨ra, rn, rc, rfl, hl, hr, hk⟩
        rw [show pickErr (foP 4) 1 5 3 = 1101 from by kernel_rfl]
        rw [show pickEv (foP 4) 1 5 3 = [] from by kernel_rfl] at hr
        obtain rfl : rn = 0 := by obtain ⟨_, _, q⟩ := own_shape hr; injection q
        have HB8 := Lib.hid (HBk.out.trans (hk.below.mono HLO.out))
        clear hl hr hk
        go_wp2_with fail
        refine (beginNo_is b lo fo0 0 _ _ HC1.out).mono ?_
        rintro e w' ⟨rfl, hw⟩
        subst w'
        go_wp2_with fail
        refine (beginNo_is b lo fo0 0 _ _ HC2.out).mono ?_
        rintro e w' ⟨rfl, hw⟩
        subst w'
        go_wp2_with (first | (go_at_call 12; refine (num_any _ _).mono ?_; rintro e w' ⟨rfl, hw⟩; subst w') | fail)
        go_ret
        exact ⟨rfl, HB8.out⟩
  all_goals
    go_wp2_with (first | (go_at_call 12; refine (num_any _ _).mono ?_; rintro e w' ⟨rfl, hw⟩; subst w') | fail)
    refine (pick_is b lo fo0 0 _ _ _ _ HL7.out).mono ?_
    rintro e w8 ⟨ra, rn, rc, rfl, hl, hr, hk⟩
    have HA1 := Lib.hid HASK.out.1
    have HA2 := Lib.hid HASK.out.2
    unfold foAsk foSt at HA1 HA2
    simp only [Nat.reduceLT, if_true] at HA1 HA2
    rw [HA1.out]
    rw [HA2.out] at hr
    obtain rfl : rn = 0 := by obtain ⟨_, _, q⟩ := own_shape hr; injection q
    have HL8 := Lib.hid hl
    have HB8 := Lib.hid (HB7.out.trans (hk.below.mono HLO.out))
    clear hl hr hk
    go_wp2_with fail
    refine (beginNo_is b lo fo0 0 _ _ HC1.out).mono ?_
    rintro e w' ⟨rfl, hw⟩
    subst w'
    go_wp2_with fail
    refine (beginNo_is b lo fo0 0 _ _ HC2.out).mono ?_
    rintro e w' ⟨rfl, hw⟩
    subst w'
    go_wp2_with (first | (go_at_call 12; refine (num_any _ _).mono ?_; rintro e w' ⟨rfl, hw⟩; subst w') | fail)
    go_ret
    exact ⟨rfl, HB8.out⟩
end Go.Proofs.Ytbkhnlacabaagaa
