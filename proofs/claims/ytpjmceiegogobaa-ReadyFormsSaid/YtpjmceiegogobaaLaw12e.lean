/- Chapter 12's law ReadyForms. -/
import Derived.Test.YtpjmceiegogobaaLaw12c
import Derived.Deep.CutBlock
set_option linter.unusedVariables false
set_option linter.unusedSimpArgs false
namespace Go.Proofs.Ytpjmceiegogobaa
open Go.RowKit

theorem mod_u64 (z : Int) (n : Nat) (hn : 0 < n) : ∃ m : Nat, (IntKind.u64.wrap z).tmod (n : Int) = (m : Int) ∧ m < n := by
  obtain ⟨q, hq⟩ := Int.eq_ofNat_of_zero_le (show 0 ≤ IntKind.u64.wrap z by rw [IntKind.wrap_u64]; omega)
  rw [hq]
  exact ⟨q % n, by rw [Int.tmod_eq_emod_of_nonneg (by omega)]; rfl, Nat.mod_lt _ hn⟩
theorem i64_and63 (x : Int) : bits .and .i64 x 63 = x % 64 := by simpa using i64_mask 6 (by decide) x
def foRow (k : Nat) : List Job := (List.range k).map (fun i : Nat => jobK (i : Int) 1 0)
theorem foRow_put : ∀ k, k < 16 → putE (foRow k) (jobK (k : Int) 1 0) = 0 ∧ putL (foRow k) (jobK (k : Int) 1 0) = foRow (k + 1) := by decide +kernel
theorem foRow_full : putE (foRow 16) (jobK 99 1 0) = 1201 := by decide +kernel
theorem foRow_len (k : Nat) : (foRow k).length = k := by simp [foRow]
/-- The job that is none. -/
def foJob (m : Nat) (d : Int) : Job := match m with
  | 0 => ⟨-d, 0, 3, 4, 13, 5, 0⟩
  | 1 => ⟨5 + d, 0, 3, 4, 13, 5, 0⟩
  | 2 => ⟨2, -d, 3, 4, 13, 5, 0⟩
  | 3 => ⟨2, 0, 255 + d, 4, 13, 5, 0⟩
  | 4 => ⟨2, 0, 3, -d, 13, 5, 0⟩
  | 5 => ⟨2, 0, 3, 1099511627776 + d, 1099511627776 + d + 1, 5, 0⟩
  | 6 => ⟨2, 0, 3, 4, 5 - d, 5, 0⟩
  | 7 => ⟨2, 0, 3, 4, 13, 1 - d, 0⟩
  | 8 => ⟨2, 0, 3, 4, 13, 65535 + d, 0⟩
  | 9 => ⟨2, 0, 3, 4, 13, 5, -d⟩
  | _ => ⟨2, 0, 3, 4, 13, 5, 4 + d⟩
theorem foJob_no (m : Nat) (d : Int) (h1 : 1 ≤ d) (h2 : d ≤ 64) : jobMay (foJob m d) = false := by
  unfold foJob jobMay
  rw [decide_eq_false_iff_not]
  split <;> (dsimp only; omega)
set_option maxRecDepth 100000 in
set_option maxHeartbeats 8000000 in
theorem readyForms_any (wh x : Int) (w : World) :
    Calls Try.prog 6 #[.int .i64 wh, .int .i64 x] w fun e w' => e = .returned (.bool true) ∧ Below w.heap.size w w' := by
  obtain ⟨y, hy⟩ := Int.eq_ofNat_of_zero_le (show 0 ≤ bits BinOp.and IntKind.i64 x 63 by rw [i64_and63]; omega)
  have hy1 : y ≤ 63 := by have := i64_and63 x; omega
  obtain ⟨m, hm0, hm1⟩ := mod_u64 wh 11 (by decide)
  rw [show ((11 : Nat) : Int) = 11 from rfl] at hm0
  have hw1 : IntKind.u64.wrap (m : Int) = (m : Int) := by rw [IntKind.wrap_u64]; omega
  have hd1 : IntKind.i64.wrap (1 + (y : Int)) = 1 + (y : Int) := by rw [IntKind.wrap_i64]; omega
  go_enter Try.func6, Try.ntmps6
  go_wp2_with fail
  refine (awake12 _).mono ?_
  rintro e w1 ⟨rfl, hb⟩
  have HB1 := Lib.hid hb
  clear hb
  go_wp2_with fail
  refine (jobK_any 3 4 2 _).mono ?_
  rintro e w2 ⟨rfl, hb⟩
  rw [show jobK 3 4 2 = ⟨2, 0, 3, 4, 13, 5, 0⟩ by unfold jobK; rw [show wrap64 (4 + 9) = 13 by decide +kernel]]
  obtain ⟨w3, hw_w3⟩ : ∃ w3, w3 = w2.alloc (.cells #[.int .i64 2, .int .i64 0, .int .i64 3, .int .i64 4, .int .i64 13, .int .i64 5, .int .i64 0] 24) := ⟨_, rfl⟩
  obtain ⟨bx, hg_bx⟩ : ∃ bx, bx = w2.heap.size := ⟨_, rfl⟩
  have hb_w3 : Below w2.heap.size w2 w3 := by rw [hw_w3]; exact balloc _ _
  have hk_bx : w3.heap[bx]? = some (.cells #[.int .i64 2, .int .i64 0, .int .i64 3, .int .i64 4, .int .i64 13, .int .i64 5, .int .i64 0] 24 (0, 0)) := by rw [hw_w3, hg_bx]; exact blk_new _ _
  have hs_w3 : w3.heap.size = w2.heap.size + 1 := by rw [hw_w3]; simp
  have HX3 := Lib.hid hk_bx
  have HB3 := Lib.hid (bthen HB1.out (bthen hb hb_w3))
  have HBX := Lib.hid (show w.heap.size ≤ bx by have := (bthen HB1.out hb).size; omega)
  clear hb hb_w3 hs_w3 hk_bx
  go_wp2_with fail
  rw [← hw_w3, ← hg_bx]
  clear hw_w3 hg_bx
  go_loopw [7, 8] (fun r i wr => ∃ k : Nat, k ≤ 16 ∧ i = .int .i64 k ∧ Hid (JobsV wr r (foRow k)) ∧ Hid (Below w3.heap.size w3 wr)) (fun _ i _ => 16 - (intOf i).toNat)
  case atStart => exact ⟨0, by omega, rfl, Lib.hid (slice0 JobAt 7 56 _), Lib.hid (Below.refl _ _)⟩
  case round =>
    obtain ⟨k, hk, rfl, HR, HBR⟩ := hrel
    by_cases hlt : k < 16
    · have hp := foRow_put k hlt
      have HP := Lib.hid hp
      clear hp
      have c1 : (k : Int) < 16 := by omega
      go_wp2_with fail
      refine (jobK_any (k : Int) 1 0 _).mono ?_
      rintro e w4 ⟨rfl, hb⟩
      have HR4 := Lib.hid (HR.out.ext (Ext.below hb))
      have HB4 := Lib.hid (bthen HBR.out hb)
      clear hb
      go_wp2_with fail
      refine (put_any _ (foRow k) (jobK (k : Int) 1 0) _ HR4.out).mono ?_
      rw [HP.out.1, HP.out.2]
      rintro e w5 ⟨va, rfl, -, hr, hb⟩
      have HR5 := Lib.hid (JobRow.jobs (hr rfl) (by rw [foRow_len]; omega))
      have HB5 := Lib.hid (bthen HB4.out hb)
      clear hr hb
      obtain ⟨aa, ac, rfl, -, -, -, -⟩ := id HR5.out
      go_wp2_with (first | (go_at_call 16; refine (num_any _ _).mono ?_; rintro e w' ⟨rfl, hw⟩; subst w') | fail)
      go_roundw
      case rel => exact ⟨k + 1, by omega, by go_num, HR5, HB5⟩
      case measure => simp [intOf]; omega
    · obtain rfl : k = 16 := by omega
      go_wp2_with fail
      refine (jobK_any 99 1 0 _).mono ?_
      rintro e w4 ⟨rfl, hb⟩
      have HR4 := Lib.hid (HR.out.ext (Ext.below hb))
      have HB4 := Lib.hid (bthen HBR.out hb)
      clear hb
      go_wp2_with fail
      refine (put_any _ (foRow 16) (jobK 99 1 0) _ HR4.out).mono ?_
      rw [foRow_full]
      rintro e w5 ⟨va, rfl, hz, -, hb⟩
      obtain rfl := hz (by decide)
      have HB5 := Lib.hid (bthen HB4.out hb)
      have HX5 := Lib.hid (keep_at HX3.out HB5.out)
      have HW5 := Lib.hid (bthen HB3.out HB5.out)
      clear hz hb
      go_upto_block 2 with (fail)
      go_cut [5] (fun s wx => s = .int .i64 (1 + (y : Int)) ∧ Hid (JobAt wx bx 0 (foJob m (1 + (y : Int))) ∧ Below w.heap.size w wx))
      case first =>
        rcases (show m = 0 ∨ m = 1 ∨ m = 2 ∨ m = 3 ∨ m = 4 ∨ m = 5 ∨ m = 6 ∨ m = 7 ∨ m = 8 ∨ m = 9 ∨ m = 10 by omega) with rfl | rfl | rfl | rfl | rfl | rfl | rfl | rfl | rfl | rfl | rfl
        · have v1 : IntKind.i64.wrap (-(1 + (y : Int))) = -(1 + (y : Int)) := by rw [IntKind.wrap_i64]; omega
          have f1 := thaw HX5.out 0
          have o1 := BlockIs.of HX5.out 0 _ rfl
          have hk1 := blk_set HX5.out 0 (.int .i64 (-(1 + (y : Int))))
          have hb1 : Below w.heap.size w (w5.setCell ⟨bx, 0, none⟩ (.int .i64 (-(1 + (y : Int))))) := bput HW5.out (set_grown _ _ _ _) HBX.out (Nat.le_refl _)
          obtain ⟨wx, hwx⟩ : ∃ wx, wx = w5.setCell ⟨bx, 0, none⟩ (.int .i64 (-(1 + (y : Int)))) := ⟨_, rfl⟩
          rw [← hwx] at hk1 hb1
          have HV := Lib.hid (And.intro (show JobAt wx bx 0 (foJob 0 (1 + (y : Int))) from jobAt_blk hk1 0 rfl rfl rfl rfl rfl rfl rfl) hb1)
          clear hk1 hb1 hm0 hm1
          go_wp2_with fail
          (try rw [← hwx])
          go_meet
          exact ⟨rfl, HV⟩
        · have v1 : IntKind.i64.wrap (5 + (1 + (y : Int))) = 5 + (1 + (y : Int)) := by rw [IntKind.wrap_i64]; omega
          have f1 := thaw HX5.out 0
          have o1 := BlockIs.of HX5.out 0 _ rfl
          have hk1 := blk_set HX5.out 0 (.int .i64 (5 + (1 + (y : Int))))
          have hb1 : Below w.heap.size w (w5.setCell ⟨bx, 0, none⟩ (.int .i64 (5 + (1 + (y : Int))))) := bput HW5.out (set_grown _ _ _ _) HBX.out (Nat.le_refl _)
          obtain ⟨wx, hwx⟩ : ∃ wx, wx = w5.setCell ⟨bx, 0, none⟩ (.int .i64 (5 + (1 + (y : Int)))) := ⟨_, rfl⟩
          rw [← hwx] at hk1 hb1
          have HV := Lib.hid (And.intro (show JobAt wx bx 0 (foJob 1 (1 + (y : Int))) from jobAt_blk hk1 0 rfl rfl rfl rfl rfl rfl rfl) hb1)
          clear hk1 hb1 hm0 hm1
          go_wp2_with fail
          (try rw [← hwx])
          go_meet
          exact ⟨rfl, HV⟩
        · have v1 : IntKind.i64.wrap (-(1 + (y : Int))) = -(1 + (y : Int)) := by rw [IntKind.wrap_i64]; omega
          have f1 := thaw HX5.out 1
          have o1 := BlockIs.of HX5.out 1 _ rfl
          have hk1 := blk_set HX5.out 1 (.int .i64 (-(1 + (y : Int))))
          have hb1 : Below w.heap.size w (w5.setCell ⟨bx, 1, none⟩ (.int .i64 (-(1 + (y : Int))))) := bput HW5.out (set_grown _ _ _ _) HBX.out (Nat.le_refl _)
          obtain ⟨wx, hwx⟩ : ∃ wx, wx = w5.setCell ⟨bx, 1, none⟩ (.int .i64 (-(1 + (y : Int)))) := ⟨_, rfl⟩
          rw [← hwx] at hk1 hb1
          have HV := Lib.hid (And.intro (show JobAt wx bx 0 (foJob 2 (1 + (y : Int))) from jobAt_blk hk1 0 rfl rfl rfl rfl rfl rfl rfl) hb1)
          clear hk1 hb1 hm0 hm1
          go_wp2_with fail
          (try rw [← hwx])
          go_meet
          exact ⟨rfl, HV⟩
        · have v1 : IntKind.i64.wrap (255 + (1 + (y : Int))) = 255 + (1 + (y : Int)) := by rw [IntKind.wrap_i64]; omega
          have f1 := thaw HX5.out 2
          have o1 := BlockIs.of HX5.out 2 _ rfl
          have hk1 := blk_set HX5.out 2 (.int .i64 (255 + (1 + (y : Int))))
          have hb1 : Below w.heap.size w (w5.setCell ⟨bx, 2, none⟩ (.int .i64 (255 + (1 + (y : Int))))) := bput HW5.out (set_grown _ _ _ _) HBX.out (Nat.le_refl _)
          obtain ⟨wx, hwx⟩ : ∃ wx, wx = w5.setCell ⟨bx, 2, none⟩ (.int .i64 (255 + (1 + (y : Int)))) := ⟨_, rfl⟩
          rw [← hwx] at hk1 hb1
          have HV := Lib.hid (And.intro (show JobAt wx bx 0 (foJob 3 (1 + (y : Int))) from jobAt_blk hk1 0 rfl rfl rfl rfl rfl rfl rfl) hb1)
          clear hk1 hb1 hm0 hm1
          go_wp2_with fail
          (try rw [← hwx])
          go_meet
          exact ⟨rfl, HV⟩
        · have v1 : IntKind.i64.wrap (-(1 + (y : Int))) = -(1 + (y : Int)) := by rw [IntKind.wrap_i64]; omega
          have f1 := thaw HX5.out 3
          have o1 := BlockIs.of HX5.out 3 _ rfl
          have hk1 := blk_set HX5.out 3 (.int .i64 (-(1 + (y : Int))))
          have hb1 : Below w.heap.size w (w5.setCell ⟨bx, 3, none⟩ (.int .i64 (-(1 + (y : Int))))) := bput HW5.out (set_grown _ _ _ _) HBX.out (Nat.le_refl _)
          obtain ⟨wx, hwx⟩ : ∃ wx, wx = w5.setCell ⟨bx, 3, none⟩ (.int .i64 (-(1 + (y : Int)))) := ⟨_, rfl⟩
          rw [← hwx] at hk1 hb1
          have HV := Lib.hid (And.intro (show JobAt wx bx 0 (foJob 4 (1 + (y : Int))) from jobAt_blk hk1 0 rfl rfl rfl rfl rfl rfl rfl) hb1)
          clear hk1 hb1 hm0 hm1
          go_wp2_with fail
          (try rw [← hwx])
          go_meet
          exact ⟨rfl, HV⟩
        · have v1 : IntKind.i64.wrap (1099511627776 + (1 + (y : Int))) = 1099511627776 + (1 + (y : Int)) := by rw [IntKind.wrap_i64]; omega
          have v2 : IntKind.i64.wrap (1099511627776 + (1 + (y : Int)) + 1) = 1099511627776 + (1 + (y : Int)) + 1 := by rw [IntKind.wrap_i64]; omega
          have f1 := thaw HX5.out 3
          have f2 := thaw HX5.out 4
          have o1 := BlockIs.of HX5.out 3 _ rfl
          have o2 := BlockIs.of HX5.out 4 _ rfl
          have hk1 := blk_set (blk_set HX5.out 3 (.int .i64 (1099511627776 + (1 + (y : Int))))) 4 (.int .i64 (1099511627776 + (1 + (y : Int)) + 1))
          have hb1 : Below w.heap.size w ((w5.setCell ⟨bx, 3, none⟩ (.int .i64 (1099511627776 + (1 + (y : Int))))).setCell ⟨bx, 4, none⟩ (.int .i64 (1099511627776 + (1 + (y : Int)) + 1))) := bput HW5.out (grown_trans (set_grown _ _ _ _) (set_grown _ _ _ _)) HBX.out (Nat.le_refl _)
          obtain ⟨wx, hwx⟩ : ∃ wx, wx = (w5.setCell ⟨bx, 3, none⟩ (.int .i64 (1099511627776 + (1 + (y : Int))))).setCell ⟨bx, 4, none⟩ (.int .i64 (1099511627776 + (1 + (y : Int)) + 1)) := ⟨_, rfl⟩
          rw [← hwx] at hk1 hb1
          have HV := Lib.hid (And.intro (show JobAt wx bx 0 (foJob 5 (1 + (y : Int))) from jobAt_blk hk1 0 rfl rfl rfl rfl rfl rfl rfl) hb1)
          clear hk1 hb1 hm0 hm1
          go_wp2_with fail
          (try rw [← hwx])
          go_meet
          exact ⟨rfl, HV⟩
        · have v1 : IntKind.i64.wrap (5 - (1 + (y : Int))) = 5 - (1 + (y : Int)) := by rw [IntKind.wrap_i64]; omega
          have f1 := thaw HX5.out 4
          have o1 := BlockIs.of HX5.out 4 _ rfl
          have hk1 := blk_set HX5.out 4 (.int .i64 (5 - (1 + (y : Int))))
          have hb1 : Below w.heap.size w (w5.setCell ⟨bx, 4, none⟩ (.int .i64 (5 - (1 + (y : Int))))) := bput HW5.out (set_grown _ _ _ _) HBX.out (Nat.le_refl _)
          obtain ⟨wx, hwx⟩ : ∃ wx, wx = w5.setCell ⟨bx, 4, none⟩ (.int .i64 (5 - (1 + (y : Int)))) := ⟨_, rfl⟩
          rw [← hwx] at hk1 hb1
          have HV := Lib.hid (And.intro (show JobAt wx bx 0 (foJob 6 (1 + (y : Int))) from jobAt_blk hk1 0 rfl rfl rfl rfl rfl rfl rfl) hb1)
          clear hk1 hb1 hm0 hm1
          go_wp2_with fail
          (try rw [← hwx])
          go_meet
          exact ⟨rfl, HV⟩
        · have v1 : IntKind.i64.wrap (1 - (1 + (y : Int))) = 1 - (1 + (y : Int)) := by rw [IntKind.wrap_i64]; omega
          have f1 := thaw HX5.out 5
          have o1 := BlockIs.of HX5.out 5 _ rfl
          have hk1 := blk_set HX5.out 5 (.int .i64 (1 - (1 + (y : Int))))
          have hb1 : Below w.heap.size w (w5.setCell ⟨bx, 5, none⟩ (.int .i64 (1 - (1 + (y : Int))))) := bput HW5.out (set_grown _ _ _ _) HBX.out (Nat.le_refl _)
          obtain ⟨wx, hwx⟩ : ∃ wx, wx = w5.setCell ⟨bx, 5, none⟩ (.int .i64 (1 - (1 + (y : Int)))) := ⟨_, rfl⟩
          rw [← hwx] at hk1 hb1
          have HV := Lib.hid (And.intro (show JobAt wx bx 0 (foJob 7 (1 + (y : Int))) from jobAt_blk hk1 0 rfl rfl rfl rfl rfl rfl rfl) hb1)
          clear hk1 hb1 hm0 hm1
          go_wp2_with fail
          (try rw [← hwx])
          go_meet
          exact ⟨rfl, HV⟩
        · have v1 : IntKind.i64.wrap (65535 + (1 + (y : Int))) = 65535 + (1 + (y : Int)) := by rw [IntKind.wrap_i64]; omega
          have f1 := thaw HX5.out 5
          have o1 := BlockIs.of HX5.out 5 _ rfl
          have hk1 := blk_set HX5.out 5 (.int .i64 (65535 + (1 + (y : Int))))
          have hb1 : Below w.heap.size w (w5.setCell ⟨bx, 5, none⟩ (.int .i64 (65535 + (1 + (y : Int))))) := bput HW5.out (set_grown _ _ _ _) HBX.out (Nat.le_refl _)
          obtain ⟨wx, hwx⟩ : ∃ wx, wx = w5.setCell ⟨bx, 5, none⟩ (.int .i64 (65535 + (1 + (y : Int)))) := ⟨_, rfl⟩
          rw [← hwx] at hk1 hb1
          have HV := Lib.hid (And.intro (show JobAt wx bx 0 (foJob 8 (1 + (y : Int))) from jobAt_blk hk1 0 rfl rfl rfl rfl rfl rfl rfl) hb1)
          clear hk1 hb1 hm0 hm1
          go_wp2_with fail
          (try rw [← hwx])
          go_meet
          exact ⟨rfl, HV⟩
        · have v1 : IntKind.i64.wrap (-(1 + (y : Int))) = -(1 + (y : Int)) := by rw [IntKind.wrap_i64]; omega
          have f1 := thaw HX5.out 6
          have o1 := BlockIs.of HX5.out 6 _ rfl
          have hk1 := blk_set HX5.out 6 (.int .i64 (-(1 + (y : Int))))
          have hb1 : Below w.heap.size w (w5.setCell ⟨bx, 6, none⟩ (.int .i64 (-(1 + (y : Int))))) := bput HW5.out (set_grown _ _ _ _) HBX.out (Nat.le_refl _)
          obtain ⟨wx, hwx⟩ : ∃ wx, wx = w5.setCell ⟨bx, 6, none⟩ (.int .i64 (-(1 + (y : Int)))) := ⟨_, rfl⟩
          rw [← hwx] at hk1 hb1
          have HV := Lib.hid (And.intro (show JobAt wx bx 0 (foJob 9 (1 + (y : Int))) from jobAt_blk hk1 0 rfl rfl rfl rfl rfl rfl rfl) hb1)
          clear hk1 hb1 hm0 hm1
          go_wp2_with fail
          (try rw [← hwx])
          go_meet
          exact ⟨rfl, HV⟩
        · have v1 : IntKind.i64.wrap (4 + (1 + (y : Int))) = 4 + (1 + (y : Int)) := by rw [IntKind.wrap_i64]; omega
          have f1 := thaw HX5.out 6
          have o1 := BlockIs.of HX5.out 6 _ rfl
          have hk1 := blk_set HX5.out 6 (.int .i64 (4 + (1 + (y : Int))))
          have hb1 : Below w.heap.size w (w5.setCell ⟨bx, 6, none⟩ (.int .i64 (4 + (1 + (y : Int))))) := bput HW5.out (set_grown _ _ _ _) HBX.out (Nat.le_refl _)
          obtain ⟨wx, hwx⟩ : ∃ wx, wx = w5.setCell ⟨bx, 6, none⟩ (.int .i64 (4 + (1 + (y : Int)))) := ⟨_, rfl⟩
          rw [← hwx] at hk1 hb1
          have HV := Lib.hid (And.intro (show JobAt wx bx 0 (foJob 10 (1 + (y : Int))) from jobAt_blk hk1 0 rfl rfl rfl rfl rfl rfl rfl) hb1)
          clear hk1 hb1 hm0 hm1
          go_wp2_with fail
          (try rw [← hwx])
          go_meet
          exact ⟨rfl, HV⟩
      case rest =>
        obtain ⟨rfl, HV⟩ := hcut
        obtain ⟨J, hJ⟩ : ∃ J, J = foJob m (1 + (y : Int)) := ⟨_, rfl⟩
        have hno : jobMay J = false := by rw [hJ]; exact foJob_no m _ (by omega) (by omega)
        rw [← hJ] at HV
        have HN := Lib.hid hno
        clear hJ hno
        obtain ⟨y0, y1, y2, y3, y4, y5, y6⟩ := HV.out.1
        unfold IntAt at y0 y1 y2 y3 y4 y5 y6
        simp only [Nat.zero_add] at y0 y1 y2 y3 y4 y5 y6
        go_wp2_with fail
        refine (put_any _ [] J _ (slice0 JobAt 7 56 _)).mono ?_
        rw [show putE [] J = 1200 by unfold putE; rw [if_pos (.inr HN.out)]]
        rintro e w6 ⟨va, rfl, hz, -, hb⟩
        obtain rfl := hz (by decide)
        have HB6 := Lib.hid (bthen HV.out.2 hb)
        have HX6 := Lib.hid (HV.out.1.ext (Ext.below hb))
        clear hz hb y0 y1 y2 y3 y4 y5 y6
        obtain ⟨y0, y1, y2, y3, y4, y5, y6⟩ := HX6.out
        unfold IntAt at y0 y1 y2 y3 y4 y5 y6
        simp only [Nat.zero_add] at y0 y1 y2 y3 y4 y5 y6
        have hjm : jobsMay [J] = false := jobsMay_no (k := 0) (by simp) (okAt_job (k := 0) (by simp) HN.out)
        have HJM := Lib.hid hjm
        have hfi : firstIs [J] = false := by unfold firstIs; rw [hjm]; rfl
        have HFI := Lib.hid hfi
        clear hjm hfi
        obtain ⟨w7, hw_w7⟩ : ∃ w7, w7 = w6.alloc (.cells #[.int .i64 J.task, .int .i64 J.seq, .int .i64 J.prio, .int .i64 J.release, .int .i64 J.deadline, .int .i64 J.demand, .int .i64 J.used] 24) := ⟨_, rfl⟩
        obtain ⟨b7, hg_b7⟩ : ∃ b7, b7 = w6.heap.size := ⟨_, rfl⟩
        have hb_w7 : Below w6.heap.size w6 w7 := by rw [hw_w7]; exact balloc _ _
        have hk_b7 : w7.heap[b7]? = some (.cells #[.int .i64 J.task, .int .i64 J.seq, .int .i64 J.prio, .int .i64 J.release, .int .i64 J.deadline, .int .i64 J.demand, .int .i64 J.used] 24 (0, 0)) := by rw [hw_w7, hg_b7]; exact blk_new _ _
        have hs_w7 : w7.heap.size = w6.heap.size + 1 := by rw [hw_w7]; simp
        have HB7 := Lib.hid (bthen HB6.out hb_w7)
        have HX7 := Lib.hid (HX6.out.ext (Ext.below hb_w7))
        have HR7 := Lib.hid (show JobsV w7 (.slice (some ⟨b7, 0, none⟩) 1 1) [J] from slice1 (by decide) (jobAt_blk hk_b7 0 rfl rfl rfl rfl rfl rfl rfl))
        clear hb_w7 hs_w7 hk_b7
        go_wp2_with fail
        rw [← hw_w7, ← hg_b7]
        clear hw_w7 hg_b7 y0 y1 y2 y3 y4 y5 y6
        refine (first_any _ [J] _ HR7.out).mono ?_
        rw [HFI.out, show jobV (firstJ [J]) = .agg #[.int .i64 0, .int .i64 0, .int .i64 0, .int .i64 0, .int .i64 0, .int .i64 0, .int .i64 0] by rw [firstJ_no HFI.out]; rfl]
        rintro e w8 ⟨rfl, hb⟩
        obtain ⟨w9, hw_w9⟩ : ∃ w9, w9 = w8.alloc (.cells #[.int .i64 0, .int .i64 0, .int .i64 0, .int .i64 0, .int .i64 0, .int .i64 0, .int .i64 0] 24) := ⟨_, rfl⟩
        obtain ⟨b9, hg_b9⟩ : ∃ b9, b9 = w8.heap.size := ⟨_, rfl⟩
        have hb_w9 : Below w8.heap.size w8 w9 := by rw [hw_w9]; exact balloc _ _
        have hk_b9 : w9.heap[b9]? = some (.cells #[.int .i64 0, .int .i64 0, .int .i64 0, .int .i64 0, .int .i64 0, .int .i64 0, .int .i64 0] 24 (0, 0)) := by rw [hw_w9, hg_b9]; exact blk_new _ _
        have hs_w9 : w9.heap.size = w8.heap.size + 1 := by rw [hw_w9]; simp
        have HB9 := Lib.hid (bthen HB7.out (bthen hb hb_w9))
        obtain ⟨y0, y1, y2, y3, y4, y5, y6⟩ := HX7.out.ext (Ext.below (bthen hb hb_w9))
        unfold IntAt at y0 y1 y2 y3 y4 y5 y6
        simp only [Nat.zero_add] at y0 y1 y2 y3 y4 y5 y6
        have z0 := BlockIs.of hk_b9 0 _ rfl
        have z1 := BlockIs.of hk_b9 1 _ rfl
        have z2 := BlockIs.of hk_b9 2 _ rfl
        have z3 := BlockIs.of hk_b9 3 _ rfl
        have z4 := BlockIs.of hk_b9 4 _ rfl
        have z5 := BlockIs.of hk_b9 5 _ rfl
        have z6 := BlockIs.of hk_b9 6 _ rfl
        obtain ⟨w10, hw_w10⟩ : ∃ w10, w10 = w9.alloc (.cells #[.int .i64 J.task, .int .i64 J.seq, .int .i64 J.prio, .int .i64 J.release, .int .i64 J.deadline, .int .i64 J.demand, .int .i64 J.used] 24) := ⟨_, rfl⟩
        obtain ⟨b10, hg_b10⟩ : ∃ b10, b10 = w9.heap.size := ⟨_, rfl⟩
        have hb_w10 : Below w9.heap.size w9 w10 := by rw [hw_w10]; exact balloc _ _
        have hk_b10 : w10.heap[b10]? = some (.cells #[.int .i64 J.task, .int .i64 J.seq, .int .i64 J.prio, .int .i64 J.release, .int .i64 J.deadline, .int .i64 J.demand, .int .i64 J.used] 24 (0, 0)) := by rw [hw_w10, hg_b10]; exact blk_new _ _
        have hs_w10 : w10.heap.size = w9.heap.size + 1 := by rw [hw_w10]; simp
        have HB10 := Lib.hid (bthen HB9.out hb_w10)
        have HR10 := Lib.hid (show JobsV w10 (.slice (some ⟨b10, 0, none⟩) 1 1) [J] from slice1 (by decide) (jobAt_blk hk_b10 0 rfl rfl rfl rfl rfl rfl rfl))
        clear hb hb_w9 hs_w9 hk_b9 hb_w10 hs_w10 hk_b10
        go_upto_region 39 with (fail)
        rw [← hw_w9, ← hg_b9]
        clear hw_w9 hg_b9
        go_wp2_with (first | (go_at_call 16; refine (num_any _ _).mono ?_; rintro e w' ⟨rfl, hw⟩; subst w') | fail)
        rw [← hw_w10, ← hg_b10]
        clear hw_w10 hg_b10
        refine (readyMay_any _ [J] _ HR10.out).mono ?_
        rw [HJM.out]
        rintro e w11 ⟨rfl, hb⟩
        have HB11 := Lib.hid (bthen HB10.out hb)
        clear hb
        go_wp2_with fail
        go_ret
        exact ⟨rfl, HB11.out⟩
end Go.Proofs.Ytpjmceiegogobaa
