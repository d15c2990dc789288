/- Chapter 14's law JobMissed (printed by gen14d.py). -/
import Derived.Test.YtbkhnlacabaagaaLaw14b
import Derived.Test.YtbkhnlacabaagaaMissP
set_option linter.unusedVariables false
set_option linter.unusedSimpArgs false
namespace Go.Proofs.Ytbkhnlacabaagaa
open Go.RowKit

def miSt (l p d : Int) (k : Nat) (n : Nat) : Nat → LSt
  | 0 => loneS 1 l (miT p d) ⟨-1, []⟩ 0 []
  | i + 1 => if i < n then miS l p d (min (i + 1) k : Nat) else miE l p d
theorem miSt_in {l p d : Int} {k n i : Nat} (h : i < n) : miSt l p d k n (i + 1) = miS l p d (min (i + 1) k : Nat) := if_pos h
theorem miSt_out {l p d : Int} {k n i : Nat} (h : ¬ i < n) : miSt l p d k n (i + 1) = miE l p d := if_neg h
set_option maxRecDepth 100000 in
set_option maxHeartbeats 16000000 in
theorem jobMissed_any (period deadline runs level : Int) (w : World) :
    Calls Try.prog 6 #[.int .i64 period, .int .i64 deadline, .int .i64 runs, .int .i64 level] w fun e w' => e = .returned (.bool true) ∧ Below w.heap.size w w' := by
  obtain ⟨y, hy⟩ := Int.eq_ofNat_of_zero_le (show 0 ≤ bits BinOp.and IntKind.i64 period 31 by rw [i64_and31]; omega)
  have hy1 : y ≤ 31 := by have := i64_and31 period; omega
  obtain ⟨p, hp⟩ : ∃ p : Nat, p = 2 + y := ⟨_, rfl⟩
  have hd1 : IntKind.i64.wrap (2 + (y : Int)) = (p : Int) := by rw [IntKind.wrap_i64]; omega
  obtain ⟨m, hm, hm1⟩ := mod_u64 deadline p (by omega)
  have hw1 : IntKind.u64.wrap (p : Int) = (p : Int) := by rw [IntKind.wrap_u64]; omega
  have hw2 : IntKind.u64.wrap (m : Int) = (m : Int) := by rw [IntKind.wrap_u64]; omega
  have hw3 : IntKind.i64.wrap (m : Int) = (m : Int) := by rw [IntKind.wrap_i64]; omega
  obtain ⟨d, hd⟩ : ∃ d : Nat, d = 1 + m := ⟨_, rfl⟩
  have hd2 : IntKind.i64.wrap (1 + (m : Int)) = (d : Int) := by rw [IntKind.wrap_i64]; omega
  have hw4 : IntKind.u64.wrap (d : Int) = (d : Int) := by rw [IntKind.wrap_u64]; omega
  obtain ⟨k, hk, hk1⟩ := mod_u64 runs d (by omega)
  have hw5 : IntKind.u64.wrap (k : Int) = (k : Int) := by rw [IntKind.wrap_u64]; omega
  have hw6 : IntKind.i64.wrap (k : Int) = (k : Int) := by rw [IntKind.wrap_i64]; omega
  obtain ⟨l, hl, hl1⟩ : ∃ l, bits BinOp.and IntKind.i64 level 1 = l ∧ (l = 0 ∨ l = 1) := ⟨_, rfl, by have := i64_and1 level; omega⟩
  have hp0 : ¬ (p : Int) = 0 := by omega
  have hdz : ¬ (d : Int) = 0 := by omega
  have HA := Lib.hid (show 1 ≤ d ∧ d ≤ p ∧ p ≤ 33 ∧ k < d by omega)
  have HLV := Lib.hid hl1
  clear hp hd hl1
  go_enter Try.func6, Try.ntmps6
  go_wp2_with fail
  refine (awake14 _).mono ?_
  rintro e w1 ⟨rfl, hb⟩
  have HB1 := Lib.hid hb
  clear hb
  obtain ⟨w2, hw_w2⟩ : ∃ w2, w2 = w1.alloc (.cells #[.int .i64 0, .int .i64 p, .int .i64 d, .int .i64 d, .int .i64 d, .int .i64 0] 50) := ⟨_, rfl⟩
  obtain ⟨g2, hg_g2⟩ : ∃ g2, g2 = w1.heap.size := ⟨_, rfl⟩
  have hb_w2 : Below w1.heap.size w1 w2 := by rw [hw_w2]; exact balloc _ _
  have hk_g2 : w2.heap[g2]? = some (.cells #[.int .i64 0, .int .i64 p, .int .i64 d, .int .i64 d, .int .i64 d, .int .i64 0] 50 (0, 0)) := by rw [hw_w2, hg_g2]; exact blk_new _ _
  have hs_w2 : w2.heap.size = w1.heap.size + 1 := by rw [hw_w2]; simp
  subst hg_g2
  have HB2 := Lib.hid (bthen HB1.out hb_w2)
  have HP := Lib.hid (show PartIs w2 (.slice (some ⟨w1.heap.size, 0, none⟩) 1 1) (.slice none 0 0) (lone l (miT p d)) from ⟨slice1 (by decide) ⟨BlockIs.of hk_g2 0 _ rfl, BlockIs.of hk_g2 1 _ rfl, BlockIs.of hk_g2 2 _ rfl, BlockIs.of hk_g2 3 _ rfl, BlockIs.of hk_g2 4 _ rfl, BlockIs.of hk_g2 5 _ rfl⟩, slice0 _ _ _ _⟩)
  clear hb_w2 hk_g2 hs_w2 HB1
  go_wp2_with fail
  rw [← hw_w2]
  clear hw_w2
  refine (new_is 1 (lone l (miT p d)) _ _ _ HP.out (lone_ok (by decide) (by decide) HLV.out (miT_may (by have := HA.out; omega) (by have := HA.out; omega) (by have := HA.out; omega)) (fun _ => rfl))).mono ?_
  rintro e w3 ⟨b0, rfl, hl0, hb⟩
  have HL3 := Lib.hid (show LocIs w3 b0 w2.heap.size (miSt l p d k d 0) 0 from hl0)
  have HB3 := Lib.hid (bthen HB2.out hb)
  obtain ⟨lo, hlo⟩ : ∃ lo, lo = w2.heap.size := ⟨_, rfl⟩
  have HLO := Lib.hid (show w.heap.size ≤ lo by rw [hlo]; exact HB2.out.size)
  rw [← hlo] at HL3
  clear hl0 hb hlo HP HB2
  go_wp2_with (first | (go_at_call 12; refine (num_any _ _).mono ?_; rintro e w' ⟨rfl, hw⟩; subst w') | fail)
  go_loopw [14] (fun i wr => ∃ q : Nat, q ≤ d + 1 ∧ i = .int .i64 q ∧ Hid (LocIs wr b0 lo (miSt l p d k d q) (6 * (q : Int))) ∧ Hid (Below w.heap.size w wr)) (fun i _ => d + 1 - (intOf i).toNat)
  case atStart => exact ⟨0, by omega, rfl, HL3, HB3⟩
  case round =>
    obtain ⟨i, hi, rfl, HL0, HB0⟩ := hrel
    have hd33 : d ≤ 33 := by have := HA.out; omega
    have hkd : k < d := HA.out.2.2.2
    have hdp : d ≤ p := HA.out.2.1
    by_cases hlast : i ≤ d
    rotate_left
    · obtain rfl : i = d + 1 := by omega
      have HST := Lib.hid (show miSt l p d k d (d + 1) = miE l p d from miSt_out (by omega))
      have HME := Lib.hid (miE_len l p d)
      have hx : ¬ ((d : Int) + 1) ≤ (d : Int) := by omega
      go_wp2_with fail
      refine (ready_is b0 lo _ _ _ HL0.out).mono ?_
      rw [HST.out, HME.out]
      rintro e w' ⟨rfl, hw⟩
      subst w'
      by_cases hq : d = p
      · subst hq
        go_wp2_with fail
        go_ret
        exact ⟨rfl, HB0.out⟩
      · have hq1 : ((d : Int) == (p : Int)) = false := by simp; omega
        have hq2 : decide ((d : Int) = (p : Int)) = false := decide_eq_false (by omega)
        rw [hq2]
        go_wp2_with fail
        go_ret
        exact ⟨rfl, HB0.out⟩
    · have hile : (i : Int) ≤ (d : Int) := by omega
      by_cases hi0 : i = 0
      · subst hi0
        have HE := Lib.hid (show begS (miSt l p d k d 0) ((0 : Nat) : Int) = miS l p d 0 ∧ begE (miSt l p d k d 0) ((0 : Nat) : Int) = [⟨1, 1, 0, d⟩] from mi_begin0 l (by omega) (by omega) (by have := HA.out; omega))
        have HST := Lib.hid (show miSt l p d k d (0 + 1) = miS l p d (min (0 + 1) k : Nat) from miSt_in (by omega))
        have hnd : ((0 : Int) == (d : Int)) = false := by simp; omega
        go_wp2_with (first | (go_at_call 12; refine (num_any _ _).mono ?_; rintro e w' ⟨rfl, hw⟩; subst w') | fail)
        refine (begin_is b0 lo _ _ ((0 : Nat) : Int) _ HL0.out (by omega) (clockYes (by omega) (by omega))).mono ?_
        rintro e w1 ⟨ra1, rn1, rc1, rfl, hl, hr, hk⟩
        rw [HE.out.2] at hr
        rw [HE.out.1] at hl
        obtain rfl : rn1 = 1 := by obtain ⟨_, _, q⟩ := own_shape hr; injection q
        have HL1 := Lib.hid hl
        have HB1 := Lib.hid (HB0.out.trans (hk.below.mono HLO.out))
        clear HB0
        have R_1 := Lib.hid hr
        clear hl hr hk HL0
        go_upto_region 15 with (first | (go_at_call 12; refine (num_any _ _).mono ?_; rintro e w' ⟨rfl, hw⟩; subst w') | fail)
        obtain ⟨base, hbase⟩ : ∃ base, base = w1.heap.size := ⟨_, rfl⟩
        have HBASE := Lib.hid (show w.heap.size ≤ base by rw [hbase]; exact HB1.out.size)
        have HSZ := Lib.hid (show base ≤ w1.heap.size by rw [hbase]; exact Nat.le_refl _)
        have HQ := Lib.hid (show EvRow w1 base (.slice none 0 0) [] from World.ownsRow_nil _ _ _ _)
        have AP_R := Lib.hid (show Apart (.slice ra1 1 rc1) (.slice none 0 0) from fun g _ h => by cases h)
        clear hbase
        go_wp2_with (at_builtin; refine append_elem_at rfl (.tmp 82) (.tmp 85) 33 rfl base 39 _ 4 32 Try.underlying33 infoEvent rfl (by decide) (.slice none 0 0) 0 _ rfl HQ.out (evCells ⟨1, 1, 0, d⟩) w1.heap.size rfl rfl rfl rfl (by omega) (by omega) HSZ.out ?_)
        intro qv w2 hown hbel hg hat
        have HQA := Lib.hid (Below.kept HQ.out (balloc w1 (.cells (evCells ⟨1, 1, 0, d⟩).toArray 39)))
        have HL2 := Lib.hid ((HL1.out.keep (balloc _ _)).grown HQA.out hg)
        have HB2 := Lib.hid (HB1.out.trans (hbel.mono HBASE.out))
        have R_2 := Lib.hid (own_two (Below.kept R_1.out (balloc _ _)) AP_R.out hg)
        have AP_R := Lib.hid (apart_next (w := w1.alloc (.cells (evCells ⟨1, 1, 0, d⟩).toArray 39)) (Below.kept R_1.out (balloc _ _)) AP_R.out (hat.imp id (fun h => ⟨_, (by simp), h⟩)))
        have HSZ := Lib.hid (Nat.le_trans HSZ.out hbel.size)
        obtain ⟨qa2, qc2, rfl⟩ := own_shape hown
        have HQ := Lib.hid (show EvRow w2 base (.slice qa2 1 qc2) [⟨1, 1, 0, d⟩] from hown)
        clear hown hbel hg hat HL1 HB1 R_1
        go_wp2_with (first | (go_at_call 12; refine (num_any _ _).mono ?_; rintro e w' ⟨rfl, hw⟩; subst w') | fail)
        refine (sameEvents_any _ _ [⟨1, 1, 0, d⟩] _ (EvRow.events R_2.out (by simp)) (EvRow.events HQ.out (by simp))).mono ?_
        rintro e w3 ⟨rfl, hb⟩
        have HL3 := Lib.hid (HL2.out.keep hb)
        have HB3 := Lib.hid (bthen HB2.out hb)
        have R_3 := Lib.hid (Below.kept R_2.out hb)
        clear HB2 R_2
        clear hb HL2
        by_cases hrun : 0 < k
        · have hrn : (0 : Int) < (k : Int) := by omega
          have HM := Lib.hid (mi_run (l := l) (p := p) (d := d) (u := 0) (by omega) (by omega))
          go_wp2_with (first | (go_at_call 12; refine (num_any _ _).mono ?_; rintro e w' ⟨rfl, hw⟩; subst w') | fail)
          refine (run_is b0 lo _ _ _ HL3.out).mono ?_
          rintro e w4 ⟨ra4, rn4, rc4, rfl, hl, hr, hk⟩
          rw [HM.out.1, HM.out.2.2.1]
          rw [HM.out.2.2.2] at hr
          rw [HM.out.2.1] at hl
          obtain rfl : rn4 = 0 := by obtain ⟨_, _, q⟩ := own_shape hr; injection q
          have HL4 := Lib.hid hl
          have HB4 := Lib.hid (HB3.out.trans (hk.below.mono HLO.out))
          have R_4 := Lib.hid (hk.rows _ _ _ _ R_3.out)
          clear HB3 R_3
          clear hl hr hk HL3
          go_wp2_with fail
          go_roundw
          case rel => exact ⟨0 + 1, by omega, by go_num, Lib.hid (by rw [HST.out, show ((min (0 + 1) k : Nat) : Int) = 0 + 1 by omega, show (6 * ((0 + 1 : Nat) : Int)) = 6 * ((0 : Nat) : Int) + 6 by omega]; exact HL4.out), HB4⟩
          case measure => first | (simp [intOf]; done) | (simp [intOf]; omega)
        · have hrn : ¬ (0 : Int) < (k : Int) := by omega
          go_wp2_with fail
          go_roundw
          case rel => exact ⟨0 + 1, by omega, by go_num, Lib.hid (by rw [HST.out, show ((min (0 + 1) k : Nat) : Int) = 0 by omega, show (6 * ((0 + 1 : Nat) : Int)) = 6 * ((0 : Nat) : Int) + 6 by omega]; exact HL3.out), HB3⟩
          case measure => first | (simp [intOf]; done) | (simp [intOf]; omega)
      · by_cases hlt : i < d
        · obtain ⟨i', rfl⟩ : ∃ i', i = i' + 1 := ⟨i - 1, by omega⟩
          obtain ⟨u, hu⟩ : ∃ u, u = min (i' + 1) k := ⟨_, rfl⟩
          have HU := Lib.hid hu
          obtain ⟨i, hii⟩ : ∃ i, i = i' + 1 := ⟨_, rfl⟩
          have HS0 := Lib.hid (show miSt l p d k d i = miS l p d (u : Nat) by rw [hii, hu]; exact miSt_in (by omega))
          have huk : u ≤ k ∧ u ≤ i ∧ (i < k → u = i) ∧ (k ≤ i → u = k) := by omega
          rw [← hii] at hi hile hlast hlt HL0 ⊢
          have hi1 : 0 < i := by omega
          clear hu hii hi0
          have HE := Lib.hid (show begS (miSt l p d k d i) (i : Int) = miS l p d (u : Nat) ∧ begE (miSt l p d k d i) (i : Int) = [] by rw [HS0.out]; exact mi_beginM l (by omega) (by omega) (by have := HA.out; omega) (by omega) (by omega) (by omega) (by omega))
          have HST := Lib.hid (show miSt l p d k d (i + 1) = miS l p d (min (i + 1) k : Nat) from miSt_in (by omega))
          have hnd : ((i : Int) == (d : Int)) = false := by simp; omega
          have tm1 : (i : Int).tmod (p : Int) = (i : Int) := by rw [Int.tmod_eq_emod_of_nonneg (by omega), Int.emod_eq_of_lt (by omega) (by omega)]
          have tm2 : ((i : Int) == 0) = false := by simp; omega
          go_wp2_with (first | (go_at_call 12; refine (num_any _ _).mono ?_; rintro e w' ⟨rfl, hw⟩; subst w') | fail)
          refine (begin_is b0 lo _ _ i _ HL0.out (by omega) (clockYes (by omega) (by omega))).mono ?_
          rintro e w1 ⟨ra1, rn1, rc1, rfl, hl, hr, hk⟩
          rw [HE.out.2] at hr
          rw [HE.out.1] at hl
          obtain rfl : rn1 = 0 := by obtain ⟨_, _, q⟩ := own_shape hr; injection q
          have HL1 := Lib.hid hl
          have HB1 := Lib.hid (HB0.out.trans (hk.below.mono HLO.out))
          clear HB0
          have R_1 := Lib.hid hr
          clear hl hr hk HL0
          go_upto_region 15 with (first | (go_at_call 12; refine (num_any _ _).mono ?_; rintro e w' ⟨rfl, hw⟩; subst w') | fail)
          have HQ := Lib.hid (show EventsV w1 (.slice none 0 0) [] from slice0 _ _ _ _)
          go_wp2_with (first | (go_at_call 12; refine (num_any _ _).mono ?_; rintro e w' ⟨rfl, hw⟩; subst w') | fail)
          refine (sameEvents_any _ _ [] _ (EvRow.events R_1.out (by simp)) HQ.out).mono ?_
          rintro e w2 ⟨rfl, hb⟩
          have HL2 := Lib.hid (HL1.out.keep hb)
          have HB2 := Lib.hid (bthen HB1.out hb)
          have R_2 := Lib.hid (Below.kept R_1.out hb)
          clear HB1 R_1
          clear hb HL1
          by_cases hrun : i < k
          · have hrn : (i : Int) < (k : Int) := by omega
            have HM := Lib.hid (mi_run (l := l) (p := p) (d := d) (u := ((u : Nat) : Int)) (by omega) (by omega))
            go_wp2_with (first | (go_at_call 12; refine (num_any _ _).mono ?_; rintro e w' ⟨rfl, hw⟩; subst w') | fail)
            refine (run_is b0 lo _ _ _ HL2.out).mono ?_
            rintro e w3 ⟨ra3, rn3, rc3, rfl, hl, hr, hk⟩
            rw [HM.out.1, HM.out.2.2.1]
            rw [HM.out.2.2.2] at hr
            rw [HM.out.2.1] at hl
            obtain rfl : rn3 = 0 := by obtain ⟨_, _, q⟩ := own_shape hr; injection q
            have HL3 := Lib.hid hl
            have HB3 := Lib.hid (HB2.out.trans (hk.below.mono HLO.out))
            have R_3 := Lib.hid (hk.rows _ _ _ _ R_2.out)
            clear HB2 R_2
            clear hl hr hk HL2
            go_wp2_with fail
            go_roundw
            case rel => exact ⟨i + 1, by omega, by go_num, Lib.hid (by rw [HST.out, show ((min (i + 1) k : Nat) : Int) = ((u : Nat) : Int) + 1 by omega, show (6 * ((i + 1 : Nat) : Int)) = 6 * ((i : Nat) : Int) + 6 by omega]; exact HL3.out), HB3⟩
            case measure => first | (simp [intOf]; done) | (simp [intOf]; omega)
          · have hrn : ¬ (i : Int) < (k : Int) := by omega
            go_wp2_with fail
            go_roundw
            case rel => exact ⟨i + 1, by omega, by go_num, Lib.hid (by rw [HST.out, show ((min (i + 1) k : Nat) : Int) = ((u : Nat) : Int) by omega, show (6 * ((i + 1 : Nat) : Int)) = 6 * ((i : Nat) : Int) + 6 by omega]; exact HL2.out), HB2⟩
            case measure => first | (simp [intOf]; done) | (simp [intOf]; omega)
        · obtain rfl : i = d := by omega
          obtain ⟨i', hii⟩ : ∃ i', i = i' + 1 := ⟨i - 1, by omega⟩
          have HS0 := Lib.hid (show miSt l p i k i i = miS l p i (k : Nat) by rw [show miSt l p i k i i = miSt l p i k i (i' + 1) by rw [← hii], miSt_in (by omega), show min (i' + 1) k = k by omega])
          have HE0 := Lib.hid (show begS (miSt l p i k i i) (i : Int) = miE l p i ∧ begE (miSt l p i k i i) (i : Int) = ⟨3, 1, 0, k⟩ :: (if (i : Int) = (p : Int) then [⟨1, 1, 0, i⟩] else []) by rw [HS0.out]; exact mi_beginE l (by omega) (by omega) (by have := HA.out; omega) (by omega) (by omega))
          have HST := Lib.hid (show miSt l p i k i (i + 1) = miE l p i from miSt_out (by omega))
          have hnr : ¬ (i : Int) < (k : Int) := by omega
          clear hii hi0 hlt
          by_cases hq : i = p
          · have HE := Lib.hid (show begS (miSt l p i k i i) (i : Int) = miE l p i ∧ begE (miSt l p i k i i) (i : Int) = [⟨3, 1, 0, k⟩, ⟨1, 1, 0, i⟩] by rw [HE0.out.1, HE0.out.2, if_pos (by omega)]; exact ⟨rfl, rfl⟩)
            have tm1 : (i : Int).tmod (p : Int) = 0 := by rw [hq, Int.tmod_self]
            clear hq
            go_wp2_with (first | (go_at_call 12; refine (num_any _ _).mono ?_; rintro e w' ⟨rfl, hw⟩; subst w') | fail)
            refine (begin_is b0 lo _ _ i _ HL0.out (by omega) (clockYes (by omega) (by omega))).mono ?_
            rintro e w1 ⟨ra1, rn1, rc1, rfl, hl, hr, hk⟩
            rw [HE.out.2] at hr
            rw [HE.out.1] at hl
            obtain rfl : rn1 = 2 := by obtain ⟨_, _, q⟩ := own_shape hr; injection q
            have HL1 := Lib.hid hl
            have HB1 := Lib.hid (HB0.out.trans (hk.below.mono HLO.out))
            clear HB0
            have R_1 := Lib.hid hr
            clear hl hr hk HL0
            go_upto_region 15 with (first | (go_at_call 12; refine (num_any _ _).mono ?_; rintro e w' ⟨rfl, hw⟩; subst w') | fail)
            obtain ⟨base, hbase⟩ : ∃ base, base = w1.heap.size := ⟨_, rfl⟩
            have HBASE := Lib.hid (show w.heap.size ≤ base by rw [hbase]; exact HB1.out.size)
            have HSZ := Lib.hid (show base ≤ w1.heap.size by rw [hbase]; exact Nat.le_refl _)
            have HQ := Lib.hid (show EvRow w1 base (.slice none 0 0) [] from World.ownsRow_nil _ _ _ _)
            have AP_R := Lib.hid (show Apart (.slice ra1 2 rc1) (.slice none 0 0) from fun g _ h => by cases h)
            clear hbase
            go_wp2_with (at_builtin; refine append_elem_at rfl (.tmp 73) (.tmp 76) 33 rfl base 39 _ 4 32 Try.underlying33 infoEvent rfl (by decide) (.slice none 0 0) 0 _ rfl HQ.out (evCells ⟨3, 1, 0, k⟩) w1.heap.size rfl rfl rfl rfl (by omega) (by omega) HSZ.out ?_)
            intro qv w2 hown hbel hg hat
            have HQA := Lib.hid (Below.kept HQ.out (balloc w1 (.cells (evCells ⟨3, 1, 0, k⟩).toArray 39)))
            have HL2 := Lib.hid ((HL1.out.keep (balloc _ _)).grown HQA.out hg)
            have HB2 := Lib.hid (HB1.out.trans (hbel.mono HBASE.out))
            have R_2 := Lib.hid (own_two (Below.kept R_1.out (balloc _ _)) AP_R.out hg)
            have AP_R := Lib.hid (apart_next (w := w1.alloc (.cells (evCells ⟨3, 1, 0, k⟩).toArray 39)) (Below.kept R_1.out (balloc _ _)) AP_R.out (hat.imp id (fun h => ⟨_, (by simp), h⟩)))
            have HSZ := Lib.hid (Nat.le_trans HSZ.out hbel.size)
            obtain ⟨qa2, qc2, rfl⟩ := own_shape hown
            have HQ := Lib.hid (show EvRow w2 base (.slice qa2 1 qc2) [⟨3, 1, 0, k⟩] from hown)
            clear hown hbel hg hat HL1 HB1 R_1
            go_wp2_with (at_builtin; refine append_elem_at rfl (.tmp 82) (.tmp 85) 33 rfl base 39 _ 4 32 Try.underlying33 infoEvent rfl (by decide) (.slice qa2 1 qc2) 1 _ rfl HQ.out (evCells ⟨1, 1, 0, i⟩) w2.heap.size rfl rfl rfl rfl (by omega) (by omega) HSZ.out ?_)
            intro qv w3 hown hbel hg hat
            have HQA := Lib.hid (Below.kept HQ.out (balloc w2 (.cells (evCells ⟨1, 1, 0, i⟩).toArray 39)))
            have HL3 := Lib.hid ((HL2.out.keep (balloc _ _)).grown HQA.out hg)
            have HB3 := Lib.hid (HB2.out.trans (hbel.mono HBASE.out))
            have R_3 := Lib.hid (own_two (Below.kept R_2.out (balloc _ _)) AP_R.out hg)
            have AP_R := Lib.hid (apart_next (w := w2.alloc (.cells (evCells ⟨1, 1, 0, i⟩).toArray 39)) (Below.kept R_2.out (balloc _ _)) AP_R.out (hat.imp id (fun h => ⟨_, (by simp), h⟩)))
            have HSZ := Lib.hid (Nat.le_trans HSZ.out hbel.size)
            obtain ⟨qa3, qc3, rfl⟩ := own_shape hown
            have HQ := Lib.hid (show EvRow w3 base (.slice qa3 2 qc3) [⟨3, 1, 0, k⟩, ⟨1, 1, 0, i⟩] from hown)
            clear hown hbel hg hat HL2 HB2 R_2
            go_wp2_with (first | (go_at_call 12; refine (num_any _ _).mono ?_; rintro e w' ⟨rfl, hw⟩; subst w') | fail)
            refine (sameEvents_any _ _ [⟨3, 1, 0, k⟩, ⟨1, 1, 0, i⟩] _ (EvRow.events R_3.out (by simp)) (EvRow.events HQ.out (by simp))).mono ?_
            rintro e w4 ⟨rfl, hb⟩
            have HL4 := Lib.hid (HL3.out.keep hb)
            have HB4 := Lib.hid (bthen HB3.out hb)
            have R_4 := Lib.hid (Below.kept R_3.out hb)
            clear HB3 R_3
            clear hb HL3
            go_wp2_with fail
            go_roundw
            case rel => exact ⟨i + 1, by omega, by go_num, Lib.hid (by rw [HST.out, show (6 * ((i + 1 : Nat) : Int)) = 6 * (i : Int) + 6 by omega]; exact HL4.out), HB4⟩
            case measure => first | (simp [intOf]; done) | (simp [intOf]; omega)
          · have HE := Lib.hid (show begS (miSt l p i k i i) (i : Int) = miE l p i ∧ begE (miSt l p i k i i) (i : Int) = [⟨3, 1, 0, k⟩] by rw [HE0.out.1, HE0.out.2, if_neg (by omega)]; exact ⟨rfl, rfl⟩)
            have tm1 : (i : Int).tmod (p : Int) = (i : Int) := by rw [Int.tmod_eq_emod_of_nonneg (by omega), Int.emod_eq_of_lt (by omega) (by omega)]
            have tm2 : ((i : Int) == 0) = false := by simp; omega
            go_wp2_with (first | (go_at_call 12; refine (num_any _ _).mono ?_; rintro e w' ⟨rfl, hw⟩; subst w') | fail)
            refine (begin_is b0 lo _ _ i _ HL0.out (by omega) (clockYes (by omega) (by omega))).mono ?_
            rintro e w1 ⟨ra1, rn1, rc1, rfl, hl, hr, hk⟩
            rw [HE.out.2] at hr
            rw [HE.out.1] at hl
            obtain rfl : rn1 = 1 := by obtain ⟨_, _, q⟩ := own_shape hr; injection q
            have HL1 := Lib.hid hl
            have HB1 := Lib.hid (HB0.out.trans (hk.below.mono HLO.out))
            clear HB0
            have R_1 := Lib.hid hr
            clear hl hr hk HL0
            go_upto_region 15 with (first | (go_at_call 12; refine (num_any _ _).mono ?_; rintro e w' ⟨rfl, hw⟩; subst w') | fail)
            obtain ⟨base, hbase⟩ : ∃ base, base = w1.heap.size := ⟨_, rfl⟩
            have HBASE := Lib.hid (show w.heap.size ≤ base by rw [hbase]; exact HB1.out.size)
            have HSZ := Lib.hid (show base ≤ w1.heap.size by rw [hbase]; exact Nat.le_refl _)
            have HQ := Lib.hid (show EvRow w1 base (.slice none 0 0) [] from World.ownsRow_nil _ _ _ _)
            have AP_R := Lib.hid (show Apart (.slice ra1 1 rc1) (.slice none 0 0) from fun g _ h => by cases h)
            clear hbase
            go_wp2_with (at_builtin; refine append_elem_at rfl (.tmp 73) (.tmp 76) 33 rfl base 39 _ 4 32 Try.underlying33 infoEvent rfl (by decide) (.slice none 0 0) 0 _ rfl HQ.out (evCells ⟨3, 1, 0, k⟩) w1.heap.size rfl rfl rfl rfl (by omega) (by omega) HSZ.out ?_)
            intro qv w2 hown hbel hg hat
            have HQA := Lib.hid (Below.kept HQ.out (balloc w1 (.cells (evCells ⟨3, 1, 0, k⟩).toArray 39)))
            have HL2 := Lib.hid ((HL1.out.keep (balloc _ _)).grown HQA.out hg)
            have HB2 := Lib.hid (HB1.out.trans (hbel.mono HBASE.out))
            have R_2 := Lib.hid (own_two (Below.kept R_1.out (balloc _ _)) AP_R.out hg)
            have AP_R := Lib.hid (apart_next (w := w1.alloc (.cells (evCells ⟨3, 1, 0, k⟩).toArray 39)) (Below.kept R_1.out (balloc _ _)) AP_R.out (hat.imp id (fun h => ⟨_, (by simp), h⟩)))
            have HSZ := Lib.hid (Nat.le_trans HSZ.out hbel.size)
            obtain ⟨qa2, qc2, rfl⟩ := own_shape hown
            have HQ := Lib.hid (show EvRow w2 base (.slice qa2 1 qc2) [⟨3, 1, 0, k⟩] from hown)
            clear hown hbel hg hat HL1 HB1 R_1
            go_wp2_with (first | (go_at_call 12; refine (num_any _ _).mono ?_; rintro e w' ⟨rfl, hw⟩; subst w') | fail)
            refine (sameEvents_any _ _ [⟨3, 1, 0, k⟩] _ (EvRow.events R_2.out (by simp)) (EvRow.events HQ.out (by simp))).mono ?_
            rintro e w3 ⟨rfl, hb⟩
            have HL3 := Lib.hid (HL2.out.keep hb)
            have HB3 := Lib.hid (bthen HB2.out hb)
            have R_3 := Lib.hid (Below.kept R_2.out hb)
            clear HB2 R_2
            clear hb HL2
            go_wp2_with fail
            go_roundw
            case rel => exact ⟨i + 1, by omega, by go_num, Lib.hid (by rw [HST.out, show (6 * ((i + 1 : Nat) : Int)) = 6 * (i : Int) + 6 by omega]; exact HL3.out), HB3⟩
            case measure => first | (simp [intOf]; done) | (simp [intOf]; omega)
end Go.Proofs.Ytbkhnlacabaagaa
