/- Chapter 22's law KernelDeals (printed by gen22c.py). -/
import Derived.Test.YtooeeiiiflfckaaGreatLaw22a
import Derived.Test.YtooeeiiiflfckaaGreatLawC
import Derived.Test.YtooeeiiiflfckaaGreatDealP
set_option linter.unusedVariables false
set_option linter.unusedSimpArgs false
namespace Go.Proofs.YtooeeiiiflfckaaGreat
open Go.RowKit
theorem min_int (x y : Nat) {a : Array TypeId} {b : TypeId} (W : World) : (Builtin.min_ a b #[.int .i64 (x : Int), .int .i64 (y : Int)]).run Tryz.prog W = .ok (.int .i64 ((min x y : Nat) : Int)) W := by
 by_cases h : (x : Int) < (y : Int)
 ·have e : min x y = x := by omega
  rw [e]
  simp [Builtin.min_, Builtin.min2, Sem.run_pure]
  omega
 ·have e : min x y = y := by omega
  rw [e]
  simp [Builtin.min_, Builtin.min2, Sem.run_pure]
  omega
set_option maxRecDepth 100000 in
set_option maxHeartbeats 16000000 in
theorem kernelDeals_any (at_ demand : Int) (w : World) : Calls Tryz.prog 6 #[.int .i64 at_, .int .i64 demand] w fun e w' => e = .returned (.bool true) /\ Below w.heap.size w w' := by
 obtain ⟨t, ht⟩ := Int.eq_ofNat_of_zero_le (show 0 <= bits BinOp.and IntKind.i64 at_ 3 by rw [i64_and3]; omega)
 have ht1 : t < 4 := by have := i64_and3 at_; omega
 obtain ⟨y, hy⟩ := Int.eq_ofNat_of_zero_le (show 0 <= bits BinOp.and IntKind.i64 demand 7 by rw [i64_and7]; omega)
 have hy1 : y < 8 := by have := i64_and7 demand; omega
 obtain ⟨d, hd⟩ : ∃ d : Nat, d = 1 + y := ⟨_, rfl⟩
 have hd1 : IntKind.i64.wrap (1 + (y : Int)) = (d : Int) := by rw [IntKind.wrap_i64]; omega
 obtain ⟨u, hu⟩ : ∃ u : Nat, u = deU d := ⟨_, rfl⟩
 have HTD := Lib.hid (show t < 4 /\ 1 <= d /\ d <= 8 by omega)
 have HU := Lib.hid hu
 have hmin : ∀ (a : Array TypeId) (b : TypeId) (W : World), (Builtin.min_ a b #[.int .i64 (d : Int), .int .i64 5]).run Tryz.prog W = .ok (.int .i64 (u : Int)) W := fun a b W => by
  rw [hu]
  exact min_int d 5 W
 have s1 : IntKind.i64.wrap ((t : Int) + (u : Int)) = (t : Int) + (u : Int) := by rw [IntKind.wrap_i64]; unfold deU at hu; omega
 have s2 : IntKind.i64.wrap ((t : Int) + 2) = (t : Int) + 2 := by rw [IntKind.wrap_i64]; omega
 clear hd hu
 have HL := Lib.hid (LawAt.start w)
 go_enter Tryz.func6, Tryz.ntmps6
 go_wp2_with (first | (go_at_call 17; refine (num_any _ _).mono ?_; rintro e w' ⟨rfl, hw⟩; subst w') | fail)
 refine (awake22 _).mono ?_
 rintro e w1 ⟨rfl, hb⟩
 replace HL := Lib.hid (HL.out.grow hb)
 clear hb
 obtain ⟨w2, g2, hw_w2, hg_g2, hb_w2, hk_g2, hs_w2⟩ := alloc_all w1 (.cells #[.int .i64 1, .int .i64 50, .int .i64 50, .int .i64 3, .int .i64 5, .int .i64 0] 51)
 replace HL := Lib.hid (HL.out.alloc hb_w2 (by omega) hk_g2)
 obtain ⟨w3, g3, hw_w3, hg_g3, hb_w3, hk_g3, hs_w3⟩ := alloc_all w2 (.cells #[.int .i64 0, .int .i64 12, .int .i64 12, .int .i64 12, .int .i64 12, .int .i64 0] 51)
 replace HL := Lib.hid (HL.out.alloc hb_w3 (by omega) hk_g3)
 obtain ⟨w4, g4, hw_w4, hg_g4, hb_w4, hk_g4, hs_w4⟩ := alloc_all w3 (.cells #[.int .i64 0, .int .i64 12, .int .i64 12, .int .i64 12, .int .i64 12, .int .i64 0] 51)
 replace HL := Lib.hid (HL.out.alloc hb_w4 (by omega) hk_g4)
 obtain ⟨w5, g5, hw_w5, hg_g5, hb_w5, hk_g5, hs_w5⟩ := alloc_all w4 (.cells #[.int .i64 1, .slice (some ⟨g2, 0, none⟩) 1 1, .slice none 0 0, .int .i64 0, .slice (some ⟨g3, 0, none⟩) 1 1, .slice none 0 0, .int .i64 0, .slice (some ⟨g4, 0, none⟩) 1 1, .slice none 0 0] 49)
 replace HL := Lib.hid (HL.out.alloc hb_w5 (by omega) hk_g5)
 obtain ⟨w6, g6, hw_w6, hg_g6, hb_w6, hk_g6, hs_w6⟩ := alloc_all w5 (.cells #[.int .i64 0, .int .i64 10, .int .i64 0, .int .i64 10, .int .i64 11, .int .i64 1, .int .i64 11, .int .i64 12, .int .i64 2] 61)
 replace HL := Lib.hid (HL.out.alloc hb_w6 (by omega) hk_g6)
 obtain ⟨w7, g7, hw_w7, hg_g7, hb_w7, hk_g7, hs_w7⟩ := alloc_all w6 (.cells #[.int .i64 12, .int .i64 1, .slice (some ⟨g5, 0, none⟩) 3 3, .slice (some ⟨g6, 0, none⟩) 3 3, .slice none 0 0] 26)
 replace HL := Lib.hid (HL.out.alloc hb_w7 (by omega) hk_g7)
 clear hb_w2 hk_g2 hb_w3 hk_g3 hb_w4 hk_g4 hb_w5 hk_g5 hb_w6 hk_g6 hb_w7 hk_g7
 have HC := Lib.hid (show CfgV w7 (.agg #[.int .i64 12, .int .i64 1, .slice (some ⟨g5, 0, none⟩) 3 3, .slice (some ⟨g6, 0, none⟩) 3 3, .slice none 0 0]) deCfg from ⟨_, _, _, rfl, ⟨slice3 (by decide) (part_blk (HL.out.box _ (List.mem_cons_of_mem _ (List.mem_cons_of_mem _ (List.mem_cons_self ..)))).1 0 ⟨1, [⟨1, 50, 50, 3, 5, 0⟩], []⟩ rfl rfl rfl (tasks_blk [⟨1, 50, 50, 3, 5, 0⟩] (HL.out.box _ (List.mem_cons_of_mem _ (List.mem_cons_of_mem _ (List.mem_cons_of_mem _ (List.mem_cons_of_mem _ (List.mem_cons_of_mem _ (List.mem_cons_self ..))))))).1 (by decide)) (slice0 _ _ _ _)) (part_blk (HL.out.box _ (List.mem_cons_of_mem _ (List.mem_cons_of_mem _ (List.mem_cons_self ..)))).1 3 ⟨0, [⟨0, 12, 12, 12, 12, 0⟩], []⟩ rfl rfl rfl (tasks_blk [⟨0, 12, 12, 12, 12, 0⟩] (HL.out.box _ (List.mem_cons_of_mem _ (List.mem_cons_of_mem _ (List.mem_cons_of_mem _ (List.mem_cons_of_mem _ (List.mem_cons_self ..)))))).1 (by decide)) (slice0 _ _ _ _)) (part_blk (HL.out.box _ (List.mem_cons_of_mem _ (List.mem_cons_of_mem _ (List.mem_cons_self ..)))).1 6 ⟨0, [⟨0, 12, 12, 12, 12, 0⟩], []⟩ rfl rfl rfl (tasks_blk [⟨0, 12, 12, 12, 12, 0⟩] (HL.out.box _ (List.mem_cons_of_mem _ (List.mem_cons_of_mem _ (List.mem_cons_of_mem _ (List.mem_cons_self ..))))).1 (by decide)) (slice0 _ _ _ _)), windows_blk [⟨0, 10, 0⟩, ⟨10, 11, 1⟩, ⟨11, 12, 2⟩] (HL.out.box _ (List.mem_cons_of_mem _ (List.mem_cons_self ..))).1 (by decide), slice0 _ _ _ _⟩⟩)
 have y0 := BlockIs.of (HL.out.box _ (List.mem_cons_self ..)).1 0 (.int .i64 12) rfl
 have y1 := BlockIs.of (HL.out.box _ (List.mem_cons_self ..)).1 1 (.int .i64 1) rfl
 have y2 := BlockIs.of (HL.out.box _ (List.mem_cons_self ..)).1 2 (.slice (some ⟨g5, 0, none⟩) 3 3) rfl
 have y3 := BlockIs.of (HL.out.box _ (List.mem_cons_self ..)).1 3 (.slice (some ⟨g6, 0, none⟩) 3 3) rfl
 have y4 := BlockIs.of (HL.out.box _ (List.mem_cons_self ..)).1 4 (.slice none 0 0) rfl
 go_upto_region 4 with (fail)
 rw [<- hw_w2]
 (try rw [<- hs_w2])
 (try rw [<- hg_g2])
 rw [<- hw_w3]
 (try rw [<- hs_w3])
 (try rw [<- hg_g3])
 rw [<- hw_w4]
 (try rw [<- hs_w4])
 (try rw [<- hg_g4])
 rw [<- hw_w5]
 (try rw [<- hs_w5])
 (try rw [<- hg_g5])
 rw [<- hw_w6]
 (try rw [<- hs_w6])
 (try rw [<- hg_g6])
 rw [<- hw_w7]
 (try rw [<- hs_w7])
 (try rw [<- hg_g7])
 clear hw_w2 hg_g2 hs_w2 hw_w3 hg_g3 hs_w3 hw_w4 hg_g4 hs_w4 hw_w5 hg_g5 hs_w5 hw_w6 hg_g6 hs_w6 hw_w7 hg_g7 hs_w7
 go_wp2_with (first | (go_at_call 17; refine (num_any _ _).mono ?_; rintro e w' ⟨rfl, hw⟩; subst w') | fail)
 refine (HL.out.callNew deCfg _ 0 HC.out de_admit (by decide)).mono ?_
 rintro e w8 ⟨Y, G, rfl, hl⟩
 replace HL := Lib.hid (hl)
 clear hl HC y0 y1 y2 y3 y4
 replace HL := Lib.hid (HL.out.nobox)
 go_wp2_with (first | (go_at_call 17; refine (num_any _ _).mono ?_; rintro e w' ⟨rfl, hw⟩; subst w') | fail)
 go_loopw [11, 12] (fun tv iv wr => ∃ (k : Nat) (G : Nat -> Prop), k <= 10 /\ iv = .int .i64 k /\ tv = .int .i64 (deT t d k : Nat) /\ Hid (LawAt w wr [⟨Y, deK t d k, G, 48 * k⟩] [] [])) (fun _ iv _ => 10 - (intOf iv).toNat)
 case atStart => exact ⟨0, G, by omega, rfl, by simp [deT], HL⟩
 case round =>
  clear HL
  obtain ⟨k, G, hk, rfl, rfl, HL⟩ := hrel
  by_cases hlt : k < 10
  ·skip
   have hlk : (k : Int) < 10 := by omega
   have hok := de_ok HTD.out.1 HTD.out.2 hlt
   obtain ⟨tu, htu⟩ : ∃ tu, tu = deT t d k := ⟨_, rfl⟩
   obtain ⟨tv, htv⟩ : ∃ tv, tv = deT t d (k + 1) := ⟨_, rfl⟩
   have hT2 : tu <= 2 := by rw [htu]; exact deT_le t d k
   have hes : deE t d k = [⟨(t : Int), 0, 0, 0, (d : Int)⟩] := if_pos hlt
   unfold deOk at hok
   rw [<- htu, <- htv, <- HU.out] at hok
   rw [<- htu]
   simp only at hok
   obtain ⟨Ke, hKe⟩ : ∃ Ke, Ke = tickE (deK t d k) (deE t d k) := ⟨_, rfl⟩
   obtain ⟨⟨Kn, rt, ro, rd, rm, re⟩, hR⟩ : ∃ R, R = tickK (deK t d k) (deE t d k) := ⟨_, rfl⟩
   rw [<- hKe, <- hR] at hok
   simp only [Bool.and_eq_true, decide_eq_true_eq] at hok
   obtain ⟨⟨q1, q2⟩, q3⟩ := hok
   subst q1 q2
   have HST := Lib.hid (show deK t d (k + 1) = Kn by show (tickK (deK t d k) (deE t d k)).1 = Kn; rw [<- hR])
   rw [hes] at hKe hR
   have HKE := Lib.hid hKe
   have HRR := Lib.hid hR
   have HTV := Lib.hid htv
   clear hKe hR htu hes htv
   obtain ⟨w21, g21, hw_w21, hg_g21, hb_w21, hk_g21, hs_w21⟩ := alloc_all wr (.cells #[.int .i64 t, .int .i64 0, .int .i64 0, .int .i64 0, .int .i64 d] 38)
   replace HL := Lib.hid (HL.out.alloc hb_w21 (by omega) hk_g21)
   clear hb_w21 hk_g21 hs_w21
   go_wp2_with (first | (go_at_call 17; refine (num_any _ _).mono ?_; rintro e w' ⟨rfl, hw⟩; subst w') | fail)
   rw [<- hw_w21, <- hg_g21]
   clear hw_w21 hg_g21
   refine (HL.out.tick (by omega) [⟨(t : Int), 0, 0, 0, (d : Int)⟩] _ (entries_blk [⟨(t : Int), 0, 0, 0, (d : Int)⟩] HL.out.box0 (by simp)) (HL.out.offBox (List.mem_cons_self ..) 0 1 1)).mono ?_
   rw [<- HRR.out, <- HKE.out]
   rintro e w22 ⟨ra, rn, rc, G2, rfl, hn, hl⟩
   simp only at hn hl
   have HRN := Lib.hid hn
   replace HL := Lib.hid (hl)
   clear hl hn
   unfold krowV
   simp only
   obtain ⟨w23, g23, hw_w23, hg_g23, hb_w23, hk_g23, hs_w23⟩ := alloc_all w22 (.cells #[.int .i64 k, .int .i64 ro, .bool rd, .int .i64 rm, .slice ra rn rc] 41)
   replace HL := Lib.hid (HL.out.alloc hb_w23 (by omega) hk_g23)
   clear hb_w23 hk_g23 hs_w23
   have x0 := BlockIs.of HL.out.box0 0 (.int .i64 k) rfl
   have x1 := BlockIs.of HL.out.box0 1 (.int .i64 ro) rfl
   have x2 := BlockIs.of HL.out.box0 2 (.bool rd) rfl
   have x3 := BlockIs.of HL.out.box0 3 (.int .i64 rm) rfl
   have HL2 := Lib.hid (show LawAt w w23 [⟨Y, deK t d (k + 1), G2, 48 * ((k + 1 : Nat) : Int)⟩] [] [] by rw [HST.out]; have := HL.out.nobox.norow; exact (show (48 * (k : Int) + 48) = 48 * ((k + 1 : Nat) : Int) by omega) ▸ this)
   clear HL
   by_cases hin : t <= k /\ k < t + u
   ·skip
    rw [if_pos hin] at q3
    simp only [Bool.and_eq_true, decide_eq_true_eq, Bool.not_eq_true'] at q3
    obtain ⟨⟨⟨a1, a2⟩, a3⟩, a4⟩ := q3
    subst a1 a2 a4
    obtain ⟨h1, h2⟩ := hin
    have c1 : decide ((k : Int) >= (t : Int)) = true := decide_eq_true (by omega)
    have c1b : decide (t <= k) = true := decide_eq_true h1
    have c2 : (k : Int) < (t : Int) + (u : Int) := by omega
    have c2b : (k : Int) < ((t + u : Nat) : Int) := by omega
    by_cases k3 : d > 3
    ·by_cases k2 : t + 2 <= k
     ·skip
      have d3 : decide ((d : Int) > 3) = true := decide_eq_true (by omega)
      have d3b : decide (3 < d) = true := decide_eq_true (by omega)
      have d2 : decide ((k : Int) >= (t : Int) + 2) = true := decide_eq_true (by omega)
      have d2b : decide (t + 2 <= k) = true := decide_eq_true (by omega)
      have d1 : (rm == 1) = true := by rw [beq_iff_eq]; exact a3.2 ⟨by omega, by omega⟩
      clear a3
      go_wp2_with (first | (go_at_call 17; refine (num_any _ _).mono ?_; rintro e w' ⟨rfl, hw⟩; subst w') | (rw [<- hw_w23, <- hg_g23]; clear hw_w23 hg_g23) | fail)
      go_roundw
      case rel => exact ⟨k + 1, G2, by omega, by go_num, by rw [<- HTV.out], HL2⟩
      case measure => simp [intOf]; omega
     ·skip
      have d3 : decide ((d : Int) > 3) = true := decide_eq_true (by omega)
      have d3b : decide (3 < d) = true := decide_eq_true (by omega)
      have d2 : decide ((k : Int) >= (t : Int) + 2) = false := decide_eq_false (by omega)
      have d2b : decide (t + 2 <= k) = false := decide_eq_false (by omega)
      have d1 : (rm == 1) = false := by rw [beq_eq_false_iff_ne]; intro q; have := a3.1 q; omega
      clear a3
      go_wp2_with (first | (go_at_call 17; refine (num_any _ _).mono ?_; rintro e w' ⟨rfl, hw⟩; subst w') | (rw [<- hw_w23, <- hg_g23]; clear hw_w23 hg_g23) | fail)
      go_roundw
      case rel => exact ⟨k + 1, G2, by omega, by go_num, by rw [<- HTV.out], HL2⟩
      case measure => simp [intOf]; omega
    ·by_cases k2 : t + 2 <= k
     ·skip
      have d3 : decide ((d : Int) > 3) = false := decide_eq_false (by omega)
      have d3b : decide (3 < d) = false := decide_eq_false (by omega)
      have d2 : decide ((k : Int) >= (t : Int) + 2) = true := decide_eq_true (by omega)
      have d2b : decide (t + 2 <= k) = true := decide_eq_true (by omega)
      have d1 : (rm == 1) = false := by rw [beq_eq_false_iff_ne]; intro q; have := a3.1 q; omega
      clear a3
      go_wp2_with (first | (go_at_call 17; refine (num_any _ _).mono ?_; rintro e w' ⟨rfl, hw⟩; subst w') | (rw [<- hw_w23, <- hg_g23]; clear hw_w23 hg_g23) | fail)
      go_roundw
      case rel => exact ⟨k + 1, G2, by omega, by go_num, by rw [<- HTV.out], HL2⟩
      case measure => simp [intOf]; omega
     ·skip
      have d3 : decide ((d : Int) > 3) = false := decide_eq_false (by omega)
      have d3b : decide (3 < d) = false := decide_eq_false (by omega)
      have d2 : decide ((k : Int) >= (t : Int) + 2) = false := decide_eq_false (by omega)
      have d2b : decide (t + 2 <= k) = false := decide_eq_false (by omega)
      have d1 : (rm == 1) = false := by rw [beq_eq_false_iff_ne]; intro q; have := a3.1 q; omega
      clear a3
      go_wp2_with (first | (go_at_call 17; refine (num_any _ _).mono ?_; rintro e w' ⟨rfl, hw⟩; subst w') | (rw [<- hw_w23, <- hg_g23]; clear hw_w23 hg_g23) | fail)
      go_roundw
      case rel => exact ⟨k + 1, G2, by omega, by go_num, by rw [<- HTV.out], HL2⟩
      case measure => simp [intOf]; omega
   ·skip
    rw [if_neg hin] at q3
    simp only [Bool.and_eq_true, decide_eq_true_eq] at q3
    obtain ⟨⟨a1, a2⟩, a4⟩ := q3
    subst a1 a2
    have s5 : IntKind.i64.wrap (3 - (tu : Int)) = ((3 - tu : Nat) : Int) := by rw [IntKind.wrap_i64]; omega
    by_cases k1 : t <= k
    ·skip
     have c1 : decide ((k : Int) >= (t : Int)) = true := decide_eq_true (by omega)
     have c1b : decide (t <= k) = true := decide_eq_true (by omega)
     have c2 : ¬ (k : Int) < (t : Int) + (u : Int) := by omega
     have c2b : ¬ (k : Int) < ((t + u : Nat) : Int) := by omega
     go_wp2_with (first | (go_at_call 17; refine (num_any _ _).mono ?_; rintro e w' ⟨rfl, hw⟩; subst w') | (rw [<- hw_w23, <- hg_g23]; clear hw_w23 hg_g23) | fail)
     go_roundw
     case rel => exact ⟨k + 1, G2, by omega, by go_num, by rw [<- HTV.out, a4], HL2⟩
     case measure => simp [intOf]; omega
    ·skip
     have c1 : decide ((k : Int) >= (t : Int)) = false := decide_eq_false (by omega)
     have c1b : decide (t <= k) = false := decide_eq_false (by omega)
     go_wp2_with (first | (go_at_call 17; refine (num_any _ _).mono ?_; rintro e w' ⟨rfl, hw⟩; subst w') | (rw [<- hw_w23, <- hg_g23]; clear hw_w23 hg_g23) | fail)
     go_roundw
     case rel => exact ⟨k + 1, G2, by omega, by go_num, by rw [<- HTV.out, a4], HL2⟩
     case measure => simp [intOf]; omega
  ·skip
   obtain rfl : k = 10 := by omega
   have hend := de_end HTD.out.1 HTD.out.2
   unfold deEnd at hend
   rw [<- HU.out] at hend
   simp only [Bool.and_eq_true, decide_eq_true_eq, Bool.not_eq_true'] at hend
   obtain ⟨⟨⟨⟨⟨q1, q2⟩, q3⟩, q4⟩, q5⟩, q6⟩ := hend
   go_wp2_with (first | (go_at_call 17; refine (num_any _ _).mono ?_; rintro e w' ⟨rfl, hw⟩; subst w') | fail)
   refine (HL.out.callLed).mono ?_
   rintro e w71 ⟨rfl, hl⟩
   replace HL := Lib.hid (hl)
   clear hl
   unfold ledV
   rw [q2, q3, q1]
   clear q1 q2 q3
   obtain ⟨w72, g72, hw_w72, hg_g72, hb_w72, hk_g72, hs_w72⟩ := alloc_all w71 (.cells #[.int .i64 (10 - (u : Int)), .int .i64 (10 - (u : Int)), .int .i64 0, .int .i64 (deK t d 10).led.last] 63)
   replace HL := Lib.hid (HL.out.alloc hb_w72 (by omega) hk_g72)
   clear hb_w72 hk_g72 hs_w72
   go_wp2_with (first | (go_at_call 17; refine (num_any _ _).mono ?_; rintro e w' ⟨rfl, hw⟩; subst w') | fail)
   rw [<- hw_w72, <- hg_g72]
   clear hw_w72 hg_g72
   obtain ⟨⟨Kn, rt, ro, rd, rm, re⟩, hR⟩ : ∃ R, R = tickK (deK t d 10) [] := ⟨_, rfl⟩
   rw [<- hR] at q5 q6
   simp only at q5 q6
   have HRR := Lib.hid hR
   have HQ4 := Lib.hid q4
   clear hR q4
   refine (HL.out.tick (by omega) [] _ (slice0 _ _ _ _) (offNil _)).mono ?_
   rw [<- HRR.out, HQ4.out]
   rintro e w73 ⟨ra, rn, rc, G2, rfl, hn, hl⟩
   simp only at hn hl
   replace HL := Lib.hid (hl)
   clear hl hn
   unfold krowV
   simp only
   obtain ⟨w74, g74, hw_w74, hg_g74, hb_w74, hk_g74, hs_w74⟩ := alloc_all w73 (.cells #[.int .i64 rt, .int .i64 ro, .bool rd, .int .i64 rm, .slice ra rn rc] 41)
   replace HL := Lib.hid (HL.out.alloc hb_w74 (by omega) hk_g74)
   clear hb_w74 hk_g74 hs_w74
   have x1 := BlockIs.of HL.out.box0 1 (.int .i64 ro) rfl
   have x2 := BlockIs.of HL.out.box0 2 (.bool rd) rfl
   subst q6
   have hb1 := (HL.out.box _ (List.mem_cons_of_mem _ (List.mem_cons_self ..))).1
   simp only at hb1
   have l0 := BlockIs.of hb1 0 (.int .i64 (10 - (u : Int))) rfl
   have l1 := BlockIs.of hb1 1 (.int .i64 (10 - (u : Int))) rfl
   have l2 := BlockIs.of hb1 2 (.int .i64 0) rfl
   clear hb1
   have s6 : IntKind.i64.wrap (10 - (u : Int)) = 10 - (u : Int) := by rw [IntKind.wrap_i64]; have := HTD.out; have := HU.out; unfold deU at this; omega
   by_cases k3 : d > 3
   ·skip
    have d3 : (d : Int) > 3 := by omega
    rw [if_pos (by omega)] at q5
    subst q5
    go_wp2_with (first | (go_at_call 17; refine (num_any _ _).mono ?_; rintro e w' ⟨rfl, hw⟩; subst w') | (rw [<- hw_w74, <- hg_g74]; clear hw_w74 hg_g74) | fail)
    go_ret
    exact ⟨rfl, HL.out.below⟩
   ·skip
    have d3 : ¬ (d : Int) > 3 := by omega
    rw [if_neg (by omega)] at q5
    subst q5
    go_wp2_with (first | (go_at_call 17; refine (num_any _ _).mono ?_; rintro e w' ⟨rfl, hw⟩; subst w') | (rw [<- hw_w74, <- hg_g74]; clear hw_w74 hg_g74) | fail)
    go_ret
    exact ⟨rfl, HL.out.below⟩
end Go.Proofs.YtooeeiiiflfckaaGreat
