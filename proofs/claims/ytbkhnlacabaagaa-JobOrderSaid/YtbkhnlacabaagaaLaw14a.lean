/- Chapter 14's laws: awake (printed by gen14a.py). -/
import Derived.Test.YtbkhnlacabaagaaLocI
set_option linter.unusedVariables false
set_option linter.unusedSimpArgs false
namespace Go.Proofs.Ytbkhnlacabaagaa
open Go.RowKit

theorem num_any (x : Int) (w : World) : Calls Try.prog 12 #[.int .i64 x] w fun e w' => e = .returned (.int .i64 x) ∧ w' = w := by
  go_enter Try.func12, Try.ntmps12
  go_wp2_with fail
  go_ret
  exact ⟨rfl, rfl⟩
def twoP (l : Int) : Part := ⟨l, [⟨0, 10, 8, 2, 2, 5⟩, ⟨1, 6, 6, 3, 3, 1⟩], []⟩
set_option maxRecDepth 100000 in
set_option maxHeartbeats 1000000 in
theorem two_any (l : Int) (w : World) : Calls Try.prog 18 #[.int .i64 l] w fun e w' => ∃ tv cv, e = .returned (.agg #[.int .i64 l, tv, cv]) ∧ PartIs w' tv cv (twoP l) ∧ Below w.heap.size w w' := by
  obtain ⟨wa, hw_wa⟩ : ∃ wa, wa = w.alloc (.cells #[.int .i64 0, .slice none 0 0, .slice none 0 0] 25) := ⟨_, rfl⟩
  obtain ⟨ga, hg_ga⟩ : ∃ ga, ga = w.heap.size := ⟨_, rfl⟩
  have hb_wa : Below w.heap.size w wa := by rw [hw_wa]; exact balloc _ _
  have hk_ga : wa.heap[ga]? = some (.cells #[.int .i64 0, .slice none 0 0, .slice none 0 0] 25 (0, 0)) := by rw [hw_wa, hg_ga]; exact blk_new _ _
  have hs_wa : wa.heap.size = w.heap.size + 1 := by rw [hw_wa]; simp
  subst hg_ga
  obtain ⟨wb, hw_wb⟩ : ∃ wb, wb = wa.alloc (.cells #[.int .i64 0, .int .i64 10, .int .i64 8, .int .i64 2, .int .i64 2, .int .i64 5, .int .i64 1, .int .i64 6, .int .i64 6, .int .i64 3, .int .i64 3, .int .i64 1] 50) := ⟨_, rfl⟩
  obtain ⟨gb, hg_gb⟩ : ∃ gb, gb = wa.heap.size := ⟨_, rfl⟩
  have hb_wb : Below wa.heap.size wa wb := by rw [hw_wb]; exact balloc _ _
  have hk_gb : wb.heap[gb]? = some (.cells #[.int .i64 0, .int .i64 10, .int .i64 8, .int .i64 2, .int .i64 2, .int .i64 5, .int .i64 1, .int .i64 6, .int .i64 6, .int .i64 3, .int .i64 3, .int .i64 1] 50 (0, 0)) := by rw [hw_wb, hg_gb]; exact blk_new _ _
  have hs_wb : wb.heap.size = wa.heap.size + 1 := by rw [hw_wb]; simp
  rw [hs_wa] at hg_gb
  subst hg_gb
  have hka := keep_at hk_ga hb_wb
  obtain ⟨wz, hw_wz⟩ : ∃ wz, wz = put3 wb w.heap.size (.int .i64 l) (.slice (some ⟨w.heap.size + 1, 0, none⟩) 2 2) (.slice none 0 0) := ⟨_, rfl⟩
  have hk_wz := put3_at hka (.int .i64 l) (.slice (some ⟨w.heap.size + 1, 0, none⟩) 2 2) (.slice none 0 0)
  have hg_wz := put3_grown wb w.heap.size (.int .i64 l) (.slice (some ⟨w.heap.size + 1, 0, none⟩) 2 2) (.slice none 0 0)
  rw [← hw_wz] at hk_wz hg_wz
  unfold put3 at hw_wz
  have o_wz_0 := BlockIs.of hka 0 _ rfl
  have o_wz_1 := BlockIs.of hka 1 _ rfl
  have o_wz_2 := BlockIs.of hka 2 _ rfl
  have f_wz := thaw hka
  have e_wz_0 := BlockIs.of hk_wz 0 _ rfl
  have e_wz_1 := BlockIs.of hk_wz 1 _ rfl
  have e_wz_2 := BlockIs.of hk_wz 2 _ rfl
  have hkb := (hg_wz.block _ (lt_of_block hk_gb) (fun q => by injection q with q; omega)).trans hk_gb
  have HB := Lib.hid (bput (bthen hb_wa hb_wb) hg_wz (Nat.le_refl _) (Nat.le_refl _))
  have HP := Lib.hid (show PartIs wz (.slice (some ⟨w.heap.size + 1, 0, none⟩) 2 2) (.slice none 0 0) (twoP l) from ⟨slice2 (by decide) ⟨BlockIs.of hkb 0 _ rfl, BlockIs.of hkb 1 _ rfl, BlockIs.of hkb 2 _ rfl, BlockIs.of hkb 3 _ rfl, BlockIs.of hkb 4 _ rfl, BlockIs.of hkb 5 _ rfl⟩ ⟨BlockIs.of hkb 6 _ rfl, BlockIs.of hkb 7 _ rfl, BlockIs.of hkb 8 _ rfl, BlockIs.of hkb 9 _ rfl, BlockIs.of hkb 10 _ rfl, BlockIs.of hkb 11 _ rfl⟩, slice0 _ _ _ _⟩)
  clear hb_wa hb_wb hka hk_ga hk_gb hkb hg_wz hk_wz hs_wa hs_wb
  go_enter Try.func18, Try.ntmps18
  go_wp2_with (first | (rw [← hw_wa, ← hw_wb]; clear hw_wa hw_wb) | (rw [← hw_wz]; clear hw_wz))
  refine bodyPost_ret (v := .agg #[.int .i64 l, .slice (some ⟨w.heap.size + 1, 0, none⟩) 2 2, .slice none 0 0]) (by simp [results, Try.results18, go_sem, e_wz_0, e_wz_1, e_wz_2]) rfl ⟨_, _, rfl, HP.out, HB.out⟩
def a14_0 : LSt := newL 3 (twoP 1)
def a14_1 : LSt := pickSt a14_0 1 3 0
def a14_2 : LSt := begS a14_1 0
def a14_3 : LSt := pickSt a14_2 2 1 0
def a14_4 : LSt := runS a14_3
def a14_5 : LSt := pickSt a14_4 1 9 2
def a14_6 : LSt := runS a14_5
set_option maxRecDepth 100000 in
set_option maxHeartbeats 16000000 in
theorem awake14 (w : World) : Calls Try.prog 10 #[] w fun e w' => e = .returned (.bool true) ∧ Below w.heap.size w w' := by
  go_enter Try.func10, Try.ntmps10
  go_wp2_with fail
  refine (two_any 1 w).mono ?_
  rintro e w1 ⟨tv, cv, rfl, hp, hb⟩
  have HB1 := Lib.hid hb
  have HLO := Lib.hid hb.size
  have HP := Lib.hid hp
  clear hb hp
  go_wp2_with fail
  refine (new_is 3 (twoP 1) tv cv w1 HP.out (by kernel_rfl)).mono ?_
  rintro e w2 ⟨b, rfl, hl, hb⟩
  have HB2 := Lib.hid (bthen HB1.out hb)
  have HL2 := Lib.hid (show LocIs w2 b w1.heap.size a14_0 0 from hl)
  obtain ⟨lo, hlo⟩ : ∃ lo, lo = w1.heap.size := ⟨_, rfl⟩
  rw [← hlo] at HL2 HLO
  clear hl hb HB1 hlo HP
  go_wp2_with fail
  refine (two_any 1 w2).mono ?_
  rintro e w21 ⟨tv2, cv2, rfl, hp, hb⟩
  have HL21 := Lib.hid (HL2.out.keep hb)
  have HB21 := Lib.hid (bthen HB2.out hb)
  have HP := Lib.hid hp
  clear hp hb HL2 HB2
  go_wp2_with fail
  refine (new_no 8 (twoP 1) tv2 cv2 w21 HP.out (by kernel_rfl)).mono ?_
  rintro e w3 ⟨rfl, hb⟩
  have HL3 := Lib.hid (HL21.out.keep hb)
  have HB3 := Lib.hid (bthen HB21.out hb)
  clear hb HL21 HB21 HP
  go_wp2_with (first | (go_at_call 12; refine (num_any _ _).mono ?_; rintro e w' ⟨rfl, hw⟩; subst w') | fail)
  refine (pick_is b lo a14_0 0 1 3 0 _ HL3.out).mono ?_
  rw [show pickErr a14_0 1 3 0 = 0 from by kernel_rfl, show pickEv a14_0 1 3 0 = [] from by kernel_rfl]
  rintro e w4 ⟨ra4, rn4, rc4, rfl, hl, hr, hk⟩
  obtain rfl : rn4 = 0 := by obtain ⟨_, _, q⟩ := own_shape hr; injection q
  have HL4 := Lib.hid hl
  have HB4 := Lib.hid (HB3.out.trans (hk.below.mono HLO.out))
  clear HB3
  clear hl hr hk HL3
  go_wp2_with (first | (go_at_call 12; refine (num_any _ _).mono ?_; rintro e w' ⟨rfl, hw⟩; subst w') | fail)
  refine (begin_is b lo a14_1 0 0 _ HL4.out (by decide) (by decide)).mono ?_
  rw [show begE a14_1 0 = [⟨1, 3, 0, 2⟩, ⟨1, 3, 1, 3⟩] from by kernel_rfl]
  rintro e w5 ⟨ra5, rn5, rc5, rfl, hl, hr, hk⟩
  obtain rfl : rn5 = 2 := by obtain ⟨_, _, q⟩ := own_shape hr; injection q
  have HL5 := Lib.hid hl
  have HB5 := Lib.hid (HB4.out.trans (hk.below.mono HLO.out))
  clear HB4
  have RB_5 := Lib.hid hr
  clear hl hr hk HL4
  go_wp2_with (first | (go_at_call 12; refine (num_any _ _).mono ?_; rintro e w' ⟨rfl, hw⟩; subst w') | fail)
  refine (pick_is b lo a14_2 (0 + 6) 2 1 0 _ HL5.out).mono ?_
  rw [show pickErr a14_2 2 1 0 = 1400 from by kernel_rfl, show pickEv a14_2 2 1 0 = [] from by kernel_rfl]
  rintro e w6 ⟨ra6, rn6, rc6, rfl, hl, hr, hk⟩
  obtain rfl : rn6 = 0 := by obtain ⟨_, _, q⟩ := own_shape hr; injection q
  have HL6 := Lib.hid hl
  have HB6 := Lib.hid (HB5.out.trans (hk.below.mono HLO.out))
  have RB_6 := Lib.hid (hk.rows _ _ _ _ RB_5.out)
  clear HB5 RB_5
  clear hl hr hk HL5
  go_wp2_with (first | (go_at_call 12; refine (num_any _ _).mono ?_; rintro e w' ⟨rfl, hw⟩; subst w') | fail)
  refine (run_is b lo a14_3 (0 + 6) _ HL6.out).mono ?_
  rw [show runV a14_3 = ⟨false, false, false⟩ from by kernel_rfl, show runEv a14_3 = [] from by kernel_rfl, show runE a14_3 = 0 from by kernel_rfl]
  rintro e w7 ⟨ra7, rn7, rc7, rfl, hl, hr, hk⟩
  obtain rfl : rn7 = 0 := by obtain ⟨_, _, q⟩ := own_shape hr; injection q
  have HL7 := Lib.hid hl
  have HB7 := Lib.hid (HB6.out.trans (hk.below.mono HLO.out))
  have RB_7 := Lib.hid (hk.rows _ _ _ _ RB_6.out)
  clear HB6 RB_6
  clear hl hr hk HL6
  obtain ⟨w8, hw_w8⟩ : ∃ w8, w8 = w7.alloc (.cells #[.bool false, .bool false, .bool false] 41) := ⟨_, rfl⟩
  obtain ⟨g8, hg_g8⟩ : ∃ g8, g8 = w7.heap.size := ⟨_, rfl⟩
  have hb_w8 : Below w7.heap.size w7 w8 := by rw [hw_w8]; exact balloc _ _
  have hk_g8 : w8.heap[g8]? = some (.cells #[.bool false, .bool false, .bool false] 41 (0, 0)) := by rw [hw_w8, hg_g8]; exact blk_new _ _
  have hs_w8 : w8.heap.size = w7.heap.size + 1 := by rw [hw_w8]; simp
  subst hg_g8
  have hb := hb_w8
  have HL8 := Lib.hid (HL7.out.keep hb)
  have HB8 := Lib.hid (bthen HB7.out hb)
  have RB_8 := Lib.hid (Below.kept RB_7.out hb)
  clear HB7 RB_7
  clear hb hb_w8 hk_g8 hs_w8 HL7
  go_wp2_with (first | (go_at_call 12; refine (num_any _ _).mono ?_; rintro e w' ⟨rfl, hw⟩; subst w') | fail)
  rw [← hw_w8]
  clear hw_w8
  refine (pick_is b lo a14_4 (0 + 6) 1 9 2 _ HL8.out).mono ?_
  rw [show pickErr a14_4 1 9 2 = 0 from by kernel_rfl, show pickEv a14_4 1 9 2 = [⟨2, 3, 1, 4⟩] from by kernel_rfl]
  rintro e w9 ⟨ra9, rn9, rc9, rfl, hl, hr, hk⟩
  obtain rfl : rn9 = 1 := by obtain ⟨_, _, q⟩ := own_shape hr; injection q
  have HL9 := Lib.hid hl
  have HB9 := Lib.hid (HB8.out.trans (hk.below.mono HLO.out))
  have RB_9 := Lib.hid (hk.rows _ _ _ _ RB_8.out)
  clear HB8 RB_8
  have RC_9 := Lib.hid hr
  clear hl hr hk HL8
  go_wp2_with (first | (go_at_call 12; refine (num_any _ _).mono ?_; rintro e w' ⟨rfl, hw⟩; subst w') | fail)
  refine (run_is b lo a14_5 (0 + 6) _ HL9.out).mono ?_
  rw [show runV a14_5 = ⟨false, false, false⟩ from by kernel_rfl, show runE a14_5 = 0 from by kernel_rfl]
  rintro e w10 ⟨ra10, rn10, rc10, rfl, hl, hr, hk⟩
  obtain rfl : rn10 = (runEv a14_5).length := by obtain ⟨_, _, q⟩ := own_shape hr; injection q
  have HL10 := Lib.hid hl
  have HB10 := Lib.hid (HB9.out.trans (hk.below.mono HLO.out))
  have RB_10 := Lib.hid (hk.rows _ _ _ _ RB_9.out)
  have RC_10 := Lib.hid (hk.rows _ _ _ _ RC_9.out)
  clear HB9 RB_9 RC_9
  clear hl hr hk HL9
  obtain ⟨w11, hw_w11⟩ : ∃ w11, w11 = w10.alloc (.cells #[.bool false, .bool false, .bool false] 41) := ⟨_, rfl⟩
  obtain ⟨g11, hg_g11⟩ : ∃ g11, g11 = w10.heap.size := ⟨_, rfl⟩
  have hb_w11 : Below w10.heap.size w10 w11 := by rw [hw_w11]; exact balloc _ _
  have hk_g11 : w11.heap[g11]? = some (.cells #[.bool false, .bool false, .bool false] 41 (0, 0)) := by rw [hw_w11, hg_g11]; exact blk_new _ _
  have hs_w11 : w11.heap.size = w10.heap.size + 1 := by rw [hw_w11]; simp
  subst hg_g11
  have hb := hb_w11
  have HL11 := Lib.hid (HL10.out.keep hb)
  have KV := Lib.hid hk_g11
  have HB11 := Lib.hid (bthen HB10.out hb)
  have RB_11 := Lib.hid (Below.kept RB_10.out hb)
  have RC_11 := Lib.hid (Below.kept RC_10.out hb)
  clear HB10 RB_10 RC_10
  clear hb hb_w11 hk_g11 hs_w11 HL10
  go_wp2_with (first | (go_at_call 12; refine (num_any _ _).mono ?_; rintro e w' ⟨rfl, hw⟩; subst w') | fail)
  rw [← hw_w11]
  clear hw_w11
  refine (jobs_is b lo a14_6 (0 + 6) _ HL11.out).mono ?_
  rintro e w12 ⟨jv, rfl, hj, hb⟩
  rw [show a14_6.js = [⟨1, 0, 1, 0, 6, 3, 2⟩, ⟨0, 0, 5, 0, 8, 2, 0⟩] from by kernel_rfl] at hj
  obtain ⟨ja, jc, rfl⟩ := own_shape hj
  have RJ_12 := Lib.hid hj
  clear hj
  replace KV := Lib.hid (keep_at KV.out hb)
  have HL12 := Lib.hid (HL11.out.keep hb)
  have HB12 := Lib.hid (bthen HB11.out hb)
  have RB_12 := Lib.hid (Below.kept RB_11.out hb)
  have RC_12 := Lib.hid (Below.kept RC_11.out hb)
  clear HB11 RB_11 RC_11
  clear hb HL11
  obtain ⟨w13, hw_w13⟩ : ∃ w13, w13 = w12.alloc (.cells #[.int .i64 1, .int .i64 3, .int .i64 0, .int .i64 2, .int .i64 1, .int .i64 3, .int .i64 1, .int .i64 3] 39) := ⟨_, rfl⟩
  obtain ⟨g13, hg_g13⟩ : ∃ g13, g13 = w12.heap.size := ⟨_, rfl⟩
  have hb_w13 : Below w12.heap.size w12 w13 := by rw [hw_w13]; exact balloc _ _
  have hk_g13 : w13.heap[g13]? = some (.cells #[.int .i64 1, .int .i64 3, .int .i64 0, .int .i64 2, .int .i64 1, .int .i64 3, .int .i64 1, .int .i64 3] 39 (0, 0)) := by rw [hw_w13, hg_g13]; exact blk_new _ _
  have hs_w13 : w13.heap.size = w12.heap.size + 1 := by rw [hw_w13]; simp
  subst hg_g13
  have hb := hb_w13
  have HL13 := Lib.hid (HL12.out.keep hb)
  replace KV := Lib.hid (keep_at KV.out hb)
  have KE := Lib.hid hk_g13
  have HB13 := Lib.hid (bthen HB12.out hb)
  have RB_13 := Lib.hid (Below.kept RB_12.out hb)
  have RC_13 := Lib.hid (Below.kept RC_12.out hb)
  have RJ_13 := Lib.hid (Below.kept RJ_12.out hb)
  clear HB12 RB_12 RC_12 RJ_12
  clear hb hb_w13 hk_g13 hs_w13 HL12
  go_wp2_with (first | (go_at_call 12; refine (num_any _ _).mono ?_; rintro e w' ⟨rfl, hw⟩; subst w') | fail)
  rw [← hw_w13]
  clear hw_w13
  refine (sameEvents_any _ _ [⟨1, 3, 0, 2⟩, ⟨1, 3, 1, 3⟩] _ (EvRow.events RB_13.out (by decide)) (slice2 (by decide) ⟨BlockIs.of KE.out 0 _ rfl, BlockIs.of KE.out 1 _ rfl, BlockIs.of KE.out 2 _ rfl, BlockIs.of KE.out 3 _ rfl⟩ ⟨BlockIs.of KE.out 4 _ rfl, BlockIs.of KE.out 5 _ rfl, BlockIs.of KE.out 6 _ rfl, BlockIs.of KE.out 7 _ rfl⟩)).mono ?_
  rintro e w14 ⟨rfl, hb⟩
  replace KV := Lib.hid (keep_at KV.out hb)
  replace KE := Lib.hid (keep_at KE.out hb)
  have HL14 := Lib.hid (HL13.out.keep hb)
  have HB14 := Lib.hid (bthen HB13.out hb)
  have RB_14 := Lib.hid (Below.kept RB_13.out hb)
  have RC_14 := Lib.hid (Below.kept RC_13.out hb)
  have RJ_14 := Lib.hid (Below.kept RJ_13.out hb)
  clear HB13 RB_13 RC_13 RJ_13
  clear hb HL13
  obtain ⟨w15, hw_w15⟩ : ∃ w15, w15 = w14.alloc (.cells #[.int .i64 2, .int .i64 3, .int .i64 1, .int .i64 4] 39) := ⟨_, rfl⟩
  obtain ⟨g15, hg_g15⟩ : ∃ g15, g15 = w14.heap.size := ⟨_, rfl⟩
  have hb_w15 : Below w14.heap.size w14 w15 := by rw [hw_w15]; exact balloc _ _
  have hk_g15 : w15.heap[g15]? = some (.cells #[.int .i64 2, .int .i64 3, .int .i64 1, .int .i64 4] 39 (0, 0)) := by rw [hw_w15, hg_g15]; exact blk_new _ _
  have hs_w15 : w15.heap.size = w14.heap.size + 1 := by rw [hw_w15]; simp
  subst hg_g15
  have hb := hb_w15
  have HL15 := Lib.hid (HL14.out.keep hb)
  replace KV := Lib.hid (keep_at KV.out hb)
  replace KE := Lib.hid (keep_at KE.out hb)
  have KF := Lib.hid hk_g15
  have HB15 := Lib.hid (bthen HB14.out hb)
  have RB_15 := Lib.hid (Below.kept RB_14.out hb)
  have RC_15 := Lib.hid (Below.kept RC_14.out hb)
  have RJ_15 := Lib.hid (Below.kept RJ_14.out hb)
  clear HB14 RB_14 RC_14 RJ_14
  clear hb hb_w15 hk_g15 hs_w15 HL14
  go_wp2_with (first | (go_at_call 12; refine (num_any _ _).mono ?_; rintro e w' ⟨rfl, hw⟩; subst w') | fail)
  rw [← hw_w15]
  clear hw_w15
  refine (sameEvents_any _ _ [⟨2, 3, 1, 4⟩] _ (EvRow.events RC_15.out (by decide)) (slice1 (by decide) ⟨BlockIs.of KF.out 0 _ rfl, BlockIs.of KF.out 1 _ rfl, BlockIs.of KF.out 2 _ rfl, BlockIs.of KF.out 3 _ rfl⟩)).mono ?_
  rintro e w16 ⟨rfl, hb⟩
  replace KV := Lib.hid (keep_at KV.out hb)
  replace KE := Lib.hid (keep_at KE.out hb)
  replace KF := Lib.hid (keep_at KF.out hb)
  have HL16 := Lib.hid (HL15.out.keep hb)
  have HB16 := Lib.hid (bthen HB15.out hb)
  have RB_16 := Lib.hid (Below.kept RB_15.out hb)
  have RC_16 := Lib.hid (Below.kept RC_15.out hb)
  have RJ_16 := Lib.hid (Below.kept RJ_15.out hb)
  clear HB15 RB_15 RC_15 RJ_15
  clear hb HL15
  have v0 := BlockIs.of KV.out 0 _ rfl
  have v1 := BlockIs.of KV.out 1 _ rfl
  have v2 := BlockIs.of KV.out 2 _ rfl
  obtain ⟨jq, joff, jc2, ej, hy0⟩ : ∃ b off c, Value.slice ja 2 jc = .slice (some ⟨b, off, none⟩) 2 c ∧ JobAt w16 b off ⟨1, 0, 1, 0, 6, 3, 2⟩ := by
    obtain ⟨a, c, e, -, -, -, hq⟩ := JobRow.jobs RJ_16.out (by decide)
    obtain ⟨q, off, e2, hq2⟩ := hq (by simp)
    injection e with e _ e3
    refine ⟨q, off, c, by rw [e, e2, e3], ?_⟩
    have := hq2 0 (by simp)
    simpa using this
  injection ej with ej _ ec
  subst ej
  obtain ⟨y0, -, -, -, -, -, y6⟩ := hy0
  unfold IntAt at y0 y6
  go_wp2_with (first | (go_at_call 12; refine (num_any _ _).mono ?_; rintro e w' ⟨rfl, hw⟩; subst w') | fail)
  refine (ready_is b lo a14_6 (0 + 6) _ HL16.out).mono ?_
  rw [show decide (0 < a14_6.js.length) = true from by kernel_rfl]
  rintro e w' ⟨rfl, hw⟩
  subst w'
  go_wp2_with fail
  go_ret
  exact ⟨rfl, HB16.out⟩
end Go.Proofs.Ytbkhnlacabaagaa
