/- The law AuditForms: rows that are none. -/
import Derived.Test.YtfhebonhcolbdaaLaw24a
set_option linter.unusedVariables false
set_option linter.unusedSimpArgs false
namespace Go.Proofs.Ytfhebonhcolbdaa
open Go.RowKit

theorem mod_u64 (z : Int) (n : Nat) (hn : 0 < n) : ∃ m : Nat, (IntKind.u64.wrap z).tmod (n : Int) = (m : Int) ∧ m < n := by
  obtain ⟨q, hq⟩ := Int.eq_ofNat_of_zero_le (show 0 ≤ IntKind.u64.wrap z by rw [IntKind.wrap_u64]; omega)
  rw [hq]
  exact ⟨q % n, by rw [Int.tmod_eq_emod_of_nonneg (by omega)]; rfl, Nat.mod_lt _ hn⟩
theorem i64_and63 (x : Int) : bits .and .i64 x 63 = x % 64 := by simpa using i64_mask 6 (by decide) x
theorem forms_of {c : Config} {R r0 : Row} (h : rowsMay c [R] = false) (h2 : rowsMay c [r0, R] = false) : auditSpec c [r0, R] = 2400 ∧ sharesErr c [R] = 2400 ∧ sharesAns c [R] = [] :=
  ⟨by unfold auditSpec; rw [if_pos h2], by unfold sharesErr; rw [if_neg (by rw [h]; simp)], by unfold sharesAns; rw [if_neg (by rw [h]; simp)]⟩
def quietCfg : Config := { plainCfg with quiet := 0 }

set_option maxRecDepth 100000 in
set_option maxHeartbeats 12000000 in
theorem auditForms_any (wh x : Int) (w : World) :
    Calls Try.prog 4 #[.int .i64 wh, .int .i64 x] w fun e w' => e = .returned (.bool true) ∧ Below w.heap.size w w' := by
  obtain ⟨y, hy⟩ := Int.eq_ofNat_of_zero_le (show 0 ≤ bits BinOp.and IntKind.i64 x 63 by rw [i64_and63]; omega)
  have hy1 : y ≤ 63 := by have := i64_and63 x; omega
  obtain ⟨m, hm0, hm1⟩ := mod_u64 wh 6 (by decide)
  rw [show ((6 : Nat) : Int) = 6 from rfl] at hm0
  go_enter Try.func4, Try.ntmps4
  go_wp2_with fail
  refine (awake24_any w).mono ?_
  rintro e w0 ⟨rfl, hb0⟩
  have HB0 := Lib.hid hb0
  clear hb0
  go_wp2_with fail
  refine (plain24_any w0).mono ?_
  rintro e w1 ⟨v, rfl, hc, hb1⟩
  obtain ⟨pv, wv, ov, rfl, hcfg⟩ := hc
  obtain ⟨pa, pk, wa, wk, oa, ok, rfl, rfl, rfl⟩ := hcfg.shape
  have HB1 := Lib.hid (bthen HB0.out hb1)
  have HC := Lib.hid hcfg
  clear hb1 hcfg HB0
  rcases (show m = 0 ∨ m = 1 ∨ m = 2 ∨ m = 3 ∨ m = 4 ∨ m = 5 by omega) with rfl | rfl | rfl | rfl | rfl | rfl
  · have hCC : CfgIs w1 (.slice pa plainCfg.parts.length pk) (.slice wa plainCfg.windows.length wk) (.slice oa plainCfg.ports.length ok) plainCfg := ⟨HC.out.parts, HC.out.windows, HC.out.ports⟩
    have hR : rowMay plainCfg (⟨-(1 + (y : Int)), 0, false, 0, []⟩ : Row) = false := by
      refine decide_eq_false ?_
      have hpl : (plainCfg.parts.length : Int) = 2 := rfl
      show ¬ (0 ≤ (-(1 + (y : Int))) ∧ (-(1 + (y : Int))) ≤ 1099511627776 ∧ -1 ≤ (0) ∧ (0) < (plainCfg.parts.length : Int) ∧ ((0) = 0 ∨ (0) = 1))
      omega
    have hF := forms_of (c := plainCfg) (R := (⟨-(1 + (y : Int)), 0, false, 0, []⟩ : Row)) (r0 := ⟨0, 0, false, 0, []⟩) (by unfold rowsMay; simp [hR]) (by unfold rowsMay; simp [hR])
    have HF := Lib.hid hF
    have HCC := Lib.hid hCC
    clear hF hCC
    go_wp2_with fail
    have hcx := (cfg_box w1 plainCfg _ _ _ 26 HCC.out).ext (Ext.alloc _ (.cells #[.int .i64 (-(1 + (y : Int))), .int .i64 (0), .bool false, .int .i64 (0), .slice none 0 0] 45))
    obtain ⟨W2, hW2⟩ : ∃ W2, W2 = (w1.alloc (.cells #[.int .i64 plainCfg.frame, .int .i64 plainCfg.quiet, .slice pa plainCfg.parts.length pk, .slice wa plainCfg.windows.length wk, .slice oa plainCfg.ports.length ok] 26)).alloc (.cells #[.int .i64 (-(1 + (y : Int))), .int .i64 (0), .bool false, .int .i64 (0), .slice none 0 0] 45) := ⟨_, rfl⟩
    have hcx : CfgC W2 w1.heap.size (.slice pa plainCfg.parts.length pk) (.slice wa plainCfg.windows.length wk) (.slice oa plainCfg.ports.length ok) plainCfg := by rw [hW2]; exact hcx
    have hbr : W2.heap[w1.heap.size + 1]? = some (.cells #[.int .i64 (-(1 + (y : Int))), .int .i64 (0), .bool false, .int .i64 (0), .slice none 0 0] 45 (0, 0)) := by rw [hW2]; simp only [heap_push, Array.getElem?_push, Array.size_push]; simp
    have hbw : Below w.heap.size w W2 := by rw [hW2]; exact bthen HB1.out (bthen (balloc _ _) (balloc _ _))
    have hs2 : w1.heap.size + 1 + 1 = W2.heap.size := by rw [hW2]; simp
    rw [← hW2, hs2]
    obtain ⟨g, hg⟩ : ∃ g, g = w1.heap.size := ⟨_, rfl⟩
    obtain ⟨rb, hrb⟩ : ∃ rb, rb = g + 1 := ⟨_, rfl⟩
    rw [← hg] at hcx hbr
    rw [← hrb] at hbr
    rw [← hg, ← hrb]
    have HCX := Lib.hid hcx
    have HBR := Lib.hid hbr
    have HBW := Lib.hid hbw
    clear hcx hbr hbw hs2 hW2 hg hrb HCC
    refine (rows_any plainCfg _ _ [⟨0, 0, false, 0, []⟩, (⟨-(1 + (y : Int)), 0, false, 0, []⟩ : Row)] _ ⟨_, _, _, rfl, HCX.out.is.ext (Ext.alloc _ _)⟩ (slice2 (by decide) (row_of (BlockIs.of (blk_new _ _)) _ rfl rfl rfl rfl rfl rfl) (row_of (BlockIs.of (blk_new _ _)) _ rfl rfl rfl rfl rfl rfl))).mono ?_
    rw [HF.out.1]
    rintro e w3 ⟨rfl, hb3⟩
    have HB3 := Lib.hid (bthen HBW.out (bthen (balloc _ _) hb3))
    have HC3 := Lib.hid (HCX.out.ext ((Ext.alloc _ _).trans (Ext.below hb3)))
    have HK3 := Lib.hid (keep_blk HBR.out (bthen (balloc _ _) hb3))
    clear hb3 HBW HCX HBR
    have z0 := HC3.out.c0; have z1 := HC3.out.c1; have z2 := HC3.out.c2; have z3 := HC3.out.c3; have z4 := HC3.out.c4; unfold IntAt at z0 z1
    have hB := BlockIs.of HK3.out
    have r0 := hB 0 _ rfl
    have r1 := hB 1 _ rfl
    have r2 := hB 2 _ rfl
    have r3 := hB 3 _ rfl
    have r4 := hB 4 _ rfl
    clear hB
    go_wp2_with fail
    refine (shares_any plainCfg _ _ [(⟨-(1 + (y : Int)), 0, false, 0, []⟩ : Row)] _ ⟨_, _, _, rfl, HC3.out.is.ext (Ext.alloc _ _)⟩ (rows1 (BlockIs.of (blk_new _ _)) _ rfl rfl rfl rfl rfl rfl)).mono ?_
    rw [HF.out.2.1, HF.out.2.2]
    rintro e w4 ⟨u, rfl, hu, -, hb4⟩
    have HB4 := Lib.hid (bthen HB3.out (bthen (balloc _ _) hb4))
    obtain ⟨ua, uc, rfl, -⟩ := hu
    clear hb4 HB3 HC3 HK3 HF z0 z1 z2 z3 z4 r0 r1 r2 r3 r4
    go_wp2_with fail
    refine (plain24_any w4).mono ?_
    rintro e w5 ⟨v5, rfl, hv5, hb5⟩
    have HB5 := Lib.hid (bthen HB4.out hb5)
    have HV5 := Lib.hid hv5
    clear hb5 hv5 HB4
    go_wp2_with fail
    refine (rows_any plainCfg _ _ [] _ HV5.out (slice0 _ _ _ _)).mono ?_
    rw [show auditSpec plainCfg [] = 0 by decide +kernel]
    rintro e w6 ⟨rfl, hb6⟩
    have HB6 := Lib.hid (bthen HB5.out hb6)
    clear hb6 HV5 HB5
    go_wp2_with fail
    refine (plain24_any w6).mono ?_
    rintro e w7 ⟨v7, rfl, hv7, hb7⟩
    have HB7 := Lib.hid (bthen HB6.out hb7)
    have HV7 := Lib.hid hv7
    clear hb7 hv7 HB6
    go_wp2_with fail
    refine (shares_any plainCfg _ _ [] _ HV7.out (slice0 _ _ _ _)).mono ?_
    rw [show sharesErr plainCfg [] = 0 by decide +kernel, show sharesAns plainCfg [] = [0, 0] by decide +kernel]
    rintro e w8 ⟨u8, rfl, hu8, -, hb8⟩
    have HB8 := Lib.hid (bthen HB7.out hb8)
    have HU8 := Lib.hid hu8
    clear hb8 hu8 HV7 HB7
    go_wp2_with (first | (go_at_call 11; refine (num_any _ _).mono ?_; rintro e w' ⟨rfl, hw⟩; subst w') | fail)
    refine (sameInts_any _ _ [0, 0] _ (HU8.out.ext (Ext.alloc _ _)) (slice2 (by decide) (BlockIs.of (blk_new _ _) 0 _ rfl) (BlockIs.of (blk_new _ _) 1 _ rfl))).mono ?_
    rintro e w9 ⟨rfl, hb9⟩
    have HB9 := Lib.hid (bthen HB8.out (bthen (balloc _ _) hb9))
    clear hb9 HB8 HU8
    go_wp2_with (first | (go_at_call 11; refine (num_any _ _).mono ?_; rintro e w' ⟨rfl, hw⟩; subst w') | fail)
    go_ret
    exact ⟨rfl, HB9.out⟩
  · have hCC : CfgIs w1 (.slice pa plainCfg.parts.length pk) (.slice wa plainCfg.windows.length wk) (.slice oa plainCfg.ports.length ok) plainCfg := ⟨HC.out.parts, HC.out.windows, HC.out.ports⟩
    have hR : rowMay plainCfg (⟨1099511627776 + (1 + (y : Int)), 0, false, 0, []⟩ : Row) = false := by
      refine decide_eq_false ?_
      have hpl : (plainCfg.parts.length : Int) = 2 := rfl
      show ¬ (0 ≤ (1099511627776 + (1 + (y : Int))) ∧ (1099511627776 + (1 + (y : Int))) ≤ 1099511627776 ∧ -1 ≤ (0) ∧ (0) < (plainCfg.parts.length : Int) ∧ ((0) = 0 ∨ (0) = 1))
      omega
    have hF := forms_of (c := plainCfg) (R := (⟨1099511627776 + (1 + (y : Int)), 0, false, 0, []⟩ : Row)) (r0 := ⟨0, 0, false, 0, []⟩) (by unfold rowsMay; simp [hR]) (by unfold rowsMay; simp [hR])
    have HF := Lib.hid hF
    have HCC := Lib.hid hCC
    clear hF hCC
    go_wp2_with fail
    have hcx := (cfg_box w1 plainCfg _ _ _ 26 HCC.out).ext (Ext.alloc _ (.cells #[.int .i64 (1099511627776 + (1 + (y : Int))), .int .i64 (0), .bool false, .int .i64 (0), .slice none 0 0] 45))
    obtain ⟨W2, hW2⟩ : ∃ W2, W2 = (w1.alloc (.cells #[.int .i64 plainCfg.frame, .int .i64 plainCfg.quiet, .slice pa plainCfg.parts.length pk, .slice wa plainCfg.windows.length wk, .slice oa plainCfg.ports.length ok] 26)).alloc (.cells #[.int .i64 (1099511627776 + (1 + (y : Int))), .int .i64 (0), .bool false, .int .i64 (0), .slice none 0 0] 45) := ⟨_, rfl⟩
    have hcx : CfgC W2 w1.heap.size (.slice pa plainCfg.parts.length pk) (.slice wa plainCfg.windows.length wk) (.slice oa plainCfg.ports.length ok) plainCfg := by rw [hW2]; exact hcx
    have hbr : W2.heap[w1.heap.size + 1]? = some (.cells #[.int .i64 (1099511627776 + (1 + (y : Int))), .int .i64 (0), .bool false, .int .i64 (0), .slice none 0 0] 45 (0, 0)) := by rw [hW2]; simp only [heap_push, Array.getElem?_push, Array.size_push]; simp
    have hbw : Below w.heap.size w W2 := by rw [hW2]; exact bthen HB1.out (bthen (balloc _ _) (balloc _ _))
    have hs2 : w1.heap.size + 1 + 1 = W2.heap.size := by rw [hW2]; simp
    rw [← hW2, hs2]
    obtain ⟨g, hg⟩ : ∃ g, g = w1.heap.size := ⟨_, rfl⟩
    obtain ⟨rb, hrb⟩ : ∃ rb, rb = g + 1 := ⟨_, rfl⟩
    rw [← hg] at hcx hbr
    rw [← hrb] at hbr
    rw [← hg, ← hrb]
    have HCX := Lib.hid hcx
    have HBR := Lib.hid hbr
    have HBW := Lib.hid hbw
    clear hcx hbr hbw hs2 hW2 hg hrb HCC
    refine (rows_any plainCfg _ _ [⟨0, 0, false, 0, []⟩, (⟨1099511627776 + (1 + (y : Int)), 0, false, 0, []⟩ : Row)] _ ⟨_, _, _, rfl, HCX.out.is.ext (Ext.alloc _ _)⟩ (slice2 (by decide) (row_of (BlockIs.of (blk_new _ _)) _ rfl rfl rfl rfl rfl rfl) (row_of (BlockIs.of (blk_new _ _)) _ rfl rfl rfl rfl rfl rfl))).mono ?_
    rw [HF.out.1]
    rintro e w3 ⟨rfl, hb3⟩
    have HB3 := Lib.hid (bthen HBW.out (bthen (balloc _ _) hb3))
    have HC3 := Lib.hid (HCX.out.ext ((Ext.alloc _ _).trans (Ext.below hb3)))
    have HK3 := Lib.hid (keep_blk HBR.out (bthen (balloc _ _) hb3))
    clear hb3 HBW HCX HBR
    have z0 := HC3.out.c0; have z1 := HC3.out.c1; have z2 := HC3.out.c2; have z3 := HC3.out.c3; have z4 := HC3.out.c4; unfold IntAt at z0 z1
    have hB := BlockIs.of HK3.out
    have r0 := hB 0 _ rfl
    have r1 := hB 1 _ rfl
    have r2 := hB 2 _ rfl
    have r3 := hB 3 _ rfl
    have r4 := hB 4 _ rfl
    clear hB
    go_wp2_with fail
    refine (shares_any plainCfg _ _ [(⟨1099511627776 + (1 + (y : Int)), 0, false, 0, []⟩ : Row)] _ ⟨_, _, _, rfl, HC3.out.is.ext (Ext.alloc _ _)⟩ (rows1 (BlockIs.of (blk_new _ _)) _ rfl rfl rfl rfl rfl rfl)).mono ?_
    rw [HF.out.2.1, HF.out.2.2]
    rintro e w4 ⟨u, rfl, hu, -, hb4⟩
    have HB4 := Lib.hid (bthen HB3.out (bthen (balloc _ _) hb4))
    obtain ⟨ua, uc, rfl, -⟩ := hu
    clear hb4 HB3 HC3 HK3 HF z0 z1 z2 z3 z4 r0 r1 r2 r3 r4
    go_wp2_with fail
    refine (plain24_any w4).mono ?_
    rintro e w5 ⟨v5, rfl, hv5, hb5⟩
    have HB5 := Lib.hid (bthen HB4.out hb5)
    have HV5 := Lib.hid hv5
    clear hb5 hv5 HB4
    go_wp2_with fail
    refine (rows_any plainCfg _ _ [] _ HV5.out (slice0 _ _ _ _)).mono ?_
    rw [show auditSpec plainCfg [] = 0 by decide +kernel]
    rintro e w6 ⟨rfl, hb6⟩
    have HB6 := Lib.hid (bthen HB5.out hb6)
    clear hb6 HV5 HB5
    go_wp2_with fail
    refine (plain24_any w6).mono ?_
    rintro e w7 ⟨v7, rfl, hv7, hb7⟩
    have HB7 := Lib.hid (bthen HB6.out hb7)
    have HV7 := Lib.hid hv7
    clear hb7 hv7 HB6
    go_wp2_with fail
    refine (shares_any plainCfg _ _ [] _ HV7.out (slice0 _ _ _ _)).mono ?_
    rw [show sharesErr plainCfg [] = 0 by decide +kernel, show sharesAns plainCfg [] = [0, 0] by decide +kernel]
    rintro e w8 ⟨u8, rfl, hu8, -, hb8⟩
    have HB8 := Lib.hid (bthen HB7.out hb8)
    have HU8 := Lib.hid hu8
    clear hb8 hu8 HV7 HB7
    go_wp2_with (first | (go_at_call 11; refine (num_any _ _).mono ?_; rintro e w' ⟨rfl, hw⟩; subst w') | fail)
    refine (sameInts_any _ _ [0, 0] _ (HU8.out.ext (Ext.alloc _ _)) (slice2 (by decide) (BlockIs.of (blk_new _ _) 0 _ rfl) (BlockIs.of (blk_new _ _) 1 _ rfl))).mono ?_
    rintro e w9 ⟨rfl, hb9⟩
    have HB9 := Lib.hid (bthen HB8.out (bthen (balloc _ _) hb9))
    clear hb9 HB8 HU8
    go_wp2_with (first | (go_at_call 11; refine (num_any _ _).mono ?_; rintro e w' ⟨rfl, hw⟩; subst w') | fail)
    go_ret
    exact ⟨rfl, HB9.out⟩
  · have hCC : CfgIs w1 (.slice pa plainCfg.parts.length pk) (.slice wa plainCfg.windows.length wk) (.slice oa plainCfg.ports.length ok) plainCfg := ⟨HC.out.parts, HC.out.windows, HC.out.ports⟩
    have hR : rowMay plainCfg (⟨3, -1 - (1 + (y : Int)), false, 0, []⟩ : Row) = false := by
      refine decide_eq_false ?_
      have hpl : (plainCfg.parts.length : Int) = 2 := rfl
      show ¬ (0 ≤ (3) ∧ (3) ≤ 1099511627776 ∧ -1 ≤ (-1 - (1 + (y : Int))) ∧ (-1 - (1 + (y : Int))) < (plainCfg.parts.length : Int) ∧ ((0) = 0 ∨ (0) = 1))
      omega
    have hF := forms_of (c := plainCfg) (R := (⟨3, -1 - (1 + (y : Int)), false, 0, []⟩ : Row)) (r0 := ⟨0, 0, false, 0, []⟩) (by unfold rowsMay; simp [hR]) (by unfold rowsMay; simp [hR])
    have HF := Lib.hid hF
    have HCC := Lib.hid hCC
    clear hF hCC
    go_wp2_with fail
    have hcx := (cfg_box w1 plainCfg _ _ _ 26 HCC.out).ext (Ext.alloc _ (.cells #[.int .i64 (3), .int .i64 (-1 - (1 + (y : Int))), .bool false, .int .i64 (0), .slice none 0 0] 45))
    obtain ⟨W2, hW2⟩ : ∃ W2, W2 = (w1.alloc (.cells #[.int .i64 plainCfg.frame, .int .i64 plainCfg.quiet, .slice pa plainCfg.parts.length pk, .slice wa plainCfg.windows.length wk, .slice oa plainCfg.ports.length ok] 26)).alloc (.cells #[.int .i64 (3), .int .i64 (-1 - (1 + (y : Int))), .bool false, .int .i64 (0), .slice none 0 0] 45) := ⟨_, rfl⟩
    have hcx : CfgC W2 w1.heap.size (.slice pa plainCfg.parts.length pk) (.slice wa plainCfg.windows.length wk) (.slice oa plainCfg.ports.length ok) plainCfg := by rw [hW2]; exact hcx
    have hbr : W2.heap[w1.heap.size + 1]? = some (.cells #[.int .i64 (3), .int .i64 (-1 - (1 + (y : Int))), .bool false, .int .i64 (0), .slice none 0 0] 45 (0, 0)) := by rw [hW2]; simp only [heap_push, Array.getElem?_push, Array.size_push]; simp
    have hbw : Below w.heap.size w W2 := by rw [hW2]; exact bthen HB1.out (bthen (balloc _ _) (balloc _ _))
    have hs2 : w1.heap.size + 1 + 1 = W2.heap.size := by rw [hW2]; simp
    rw [← hW2, hs2]
    obtain ⟨g, hg⟩ : ∃ g, g = w1.heap.size := ⟨_, rfl⟩
    obtain ⟨rb, hrb⟩ : ∃ rb, rb = g + 1 := ⟨_, rfl⟩
    rw [← hg] at hcx hbr
    rw [← hrb] at hbr
    rw [← hg, ← hrb]
    have HCX := Lib.hid hcx
    have HBR := Lib.hid hbr
    have HBW := Lib.hid hbw
    clear hcx hbr hbw hs2 hW2 hg hrb HCC
    refine (rows_any plainCfg _ _ [⟨0, 0, false, 0, []⟩, (⟨3, -1 - (1 + (y : Int)), false, 0, []⟩ : Row)] _ ⟨_, _, _, rfl, HCX.out.is.ext (Ext.alloc _ _)⟩ (slice2 (by decide) (row_of (BlockIs.of (blk_new _ _)) _ rfl rfl rfl rfl rfl rfl) (row_of (BlockIs.of (blk_new _ _)) _ rfl rfl rfl rfl rfl rfl))).mono ?_
    rw [HF.out.1]
    rintro e w3 ⟨rfl, hb3⟩
    have HB3 := Lib.hid (bthen HBW.out (bthen (balloc _ _) hb3))
    have HC3 := Lib.hid (HCX.out.ext ((Ext.alloc _ _).trans (Ext.below hb3)))
    have HK3 := Lib.hid (keep_blk HBR.out (bthen (balloc _ _) hb3))
    clear hb3 HBW HCX HBR
    have z0 := HC3.out.c0; have z1 := HC3.out.c1; have z2 := HC3.out.c2; have z3 := HC3.out.c3; have z4 := HC3.out.c4; unfold IntAt at z0 z1
    have hB := BlockIs.of HK3.out
    have r0 := hB 0 _ rfl
    have r1 := hB 1 _ rfl
    have r2 := hB 2 _ rfl
    have r3 := hB 3 _ rfl
    have r4 := hB 4 _ rfl
    clear hB
    go_wp2_with fail
    refine (shares_any plainCfg _ _ [(⟨3, -1 - (1 + (y : Int)), false, 0, []⟩ : Row)] _ ⟨_, _, _, rfl, HC3.out.is.ext (Ext.alloc _ _)⟩ (rows1 (BlockIs.of (blk_new _ _)) _ rfl rfl rfl rfl rfl rfl)).mono ?_
    rw [HF.out.2.1, HF.out.2.2]
    rintro e w4 ⟨u, rfl, hu, -, hb4⟩
    have HB4 := Lib.hid (bthen HB3.out (bthen (balloc _ _) hb4))
    obtain ⟨ua, uc, rfl, -⟩ := hu
    clear hb4 HB3 HC3 HK3 HF z0 z1 z2 z3 z4 r0 r1 r2 r3 r4
    go_wp2_with fail
    refine (plain24_any w4).mono ?_
    rintro e w5 ⟨v5, rfl, hv5, hb5⟩
    have HB5 := Lib.hid (bthen HB4.out hb5)
    have HV5 := Lib.hid hv5
    clear hb5 hv5 HB4
    go_wp2_with fail
    refine (rows_any plainCfg _ _ [] _ HV5.out (slice0 _ _ _ _)).mono ?_
    rw [show auditSpec plainCfg [] = 0 by decide +kernel]
    rintro e w6 ⟨rfl, hb6⟩
    have HB6 := Lib.hid (bthen HB5.out hb6)
    clear hb6 HV5 HB5
    go_wp2_with fail
    refine (plain24_any w6).mono ?_
    rintro e w7 ⟨v7, rfl, hv7, hb7⟩
    have HB7 := Lib.hid (bthen HB6.out hb7)
    have HV7 := Lib.hid hv7
    clear hb7 hv7 HB6
    go_wp2_with fail
    refine (shares_any plainCfg _ _ [] _ HV7.out (slice0 _ _ _ _)).mono ?_
    rw [show sharesErr plainCfg [] = 0 by decide +kernel, show sharesAns plainCfg [] = [0, 0] by decide +kernel]
    rintro e w8 ⟨u8, rfl, hu8, -, hb8⟩
    have HB8 := Lib.hid (bthen HB7.out hb8)
    have HU8 := Lib.hid hu8
    clear hb8 hu8 HV7 HB7
    go_wp2_with (first | (go_at_call 11; refine (num_any _ _).mono ?_; rintro e w' ⟨rfl, hw⟩; subst w') | fail)
    refine (sameInts_any _ _ [0, 0] _ (HU8.out.ext (Ext.alloc _ _)) (slice2 (by decide) (BlockIs.of (blk_new _ _) 0 _ rfl) (BlockIs.of (blk_new _ _) 1 _ rfl))).mono ?_
    rintro e w9 ⟨rfl, hb9⟩
    have HB9 := Lib.hid (bthen HB8.out (bthen (balloc _ _) hb9))
    clear hb9 HB8 HU8
    go_wp2_with (first | (go_at_call 11; refine (num_any _ _).mono ?_; rintro e w' ⟨rfl, hw⟩; subst w') | fail)
    go_ret
    exact ⟨rfl, HB9.out⟩
  · have hCC : CfgIs w1 (.slice pa plainCfg.parts.length pk) (.slice wa plainCfg.windows.length wk) (.slice oa plainCfg.ports.length ok) plainCfg := ⟨HC.out.parts, HC.out.windows, HC.out.ports⟩
    have hR : rowMay plainCfg (⟨3, 1 + (1 + (y : Int)), false, 0, []⟩ : Row) = false := by
      refine decide_eq_false ?_
      have hpl : (plainCfg.parts.length : Int) = 2 := rfl
      show ¬ (0 ≤ (3) ∧ (3) ≤ 1099511627776 ∧ -1 ≤ (1 + (1 + (y : Int))) ∧ (1 + (1 + (y : Int))) < (plainCfg.parts.length : Int) ∧ ((0) = 0 ∨ (0) = 1))
      omega
    have hF := forms_of (c := plainCfg) (R := (⟨3, 1 + (1 + (y : Int)), false, 0, []⟩ : Row)) (r0 := ⟨0, 0, false, 0, []⟩) (by unfold rowsMay; simp [hR]) (by unfold rowsMay; simp [hR])
    have HF := Lib.hid hF
    have HCC := Lib.hid hCC
    clear hF hCC
    go_wp2_with fail
    have hcx := (cfg_box w1 plainCfg _ _ _ 26 HCC.out).ext (Ext.alloc _ (.cells #[.int .i64 (3), .int .i64 (1 + (1 + (y : Int))), .bool false, .int .i64 (0), .slice none 0 0] 45))
    obtain ⟨W2, hW2⟩ : ∃ W2, W2 = (w1.alloc (.cells #[.int .i64 plainCfg.frame, .int .i64 plainCfg.quiet, .slice pa plainCfg.parts.length pk, .slice wa plainCfg.windows.length wk, .slice oa plainCfg.ports.length ok] 26)).alloc (.cells #[.int .i64 (3), .int .i64 (1 + (1 + (y : Int))), .bool false, .int .i64 (0), .slice none 0 0] 45) := ⟨_, rfl⟩
    have hcx : CfgC W2 w1.heap.size (.slice pa plainCfg.parts.length pk) (.slice wa plainCfg.windows.length wk) (.slice oa plainCfg.ports.length ok) plainCfg := by rw [hW2]; exact hcx
    have hbr : W2.heap[w1.heap.size + 1]? = some (.cells #[.int .i64 (3), .int .i64 (1 + (1 + (y : Int))), .bool false, .int .i64 (0), .slice none 0 0] 45 (0, 0)) := by rw [hW2]; simp only [heap_push, Array.getElem?_push, Array.size_push]; simp
    have hbw : Below w.heap.size w W2 := by rw [hW2]; exact bthen HB1.out (bthen (balloc _ _) (balloc _ _))
    have hs2 : w1.heap.size + 1 + 1 = W2.heap.size := by rw [hW2]; simp
    rw [← hW2, hs2]
    obtain ⟨g, hg⟩ : ∃ g, g = w1.heap.size := ⟨_, rfl⟩
    obtain ⟨rb, hrb⟩ : ∃ rb, rb = g + 1 := ⟨_, rfl⟩
    rw [← hg] at hcx hbr
    rw [← hrb] at hbr
    rw [← hg, ← hrb]
    have HCX := Lib.hid hcx
    have HBR := Lib.hid hbr
    have HBW := Lib.hid hbw
    clear hcx hbr hbw hs2 hW2 hg hrb HCC
    refine (rows_any plainCfg _ _ [⟨0, 0, false, 0, []⟩, (⟨3, 1 + (1 + (y : Int)), false, 0, []⟩ : Row)] _ ⟨_, _, _, rfl, HCX.out.is.ext (Ext.alloc _ _)⟩ (slice2 (by decide) (row_of (BlockIs.of (blk_new _ _)) _ rfl rfl rfl rfl rfl rfl) (row_of (BlockIs.of (blk_new _ _)) _ rfl rfl rfl rfl rfl rfl))).mono ?_
    rw [HF.out.1]
    rintro e w3 ⟨rfl, hb3⟩
    have HB3 := Lib.hid (bthen HBW.out (bthen (balloc _ _) hb3))
    have HC3 := Lib.hid (HCX.out.ext ((Ext.alloc _ _).trans (Ext.below hb3)))
    have HK3 := Lib.hid (keep_blk HBR.out (bthen (balloc _ _) hb3))
    clear hb3 HBW HCX HBR
    have z0 := HC3.out.c0; have z1 := HC3.out.c1; have z2 := HC3.out.c2; have z3 := HC3.out.c3; have z4 := HC3.out.c4; unfold IntAt at z0 z1
    have hB := BlockIs.of HK3.out
    have r0 := hB 0 _ rfl
    have r1 := hB 1 _ rfl
    have r2 := hB 2 _ rfl
    have r3 := hB 3 _ rfl
    have r4 := hB 4 _ rfl
    clear hB
    go_wp2_with fail
    refine (shares_any plainCfg _ _ [(⟨3, 1 + (1 + (y : Int)), false, 0, []⟩ : Row)] _ ⟨_, _, _, rfl, HC3.out.is.ext (Ext.alloc _ _)⟩ (rows1 (BlockIs.of (blk_new _ _)) _ rfl rfl rfl rfl rfl rfl)).mono ?_
    rw [HF.out.2.1, HF.out.2.2]
    rintro e w4 ⟨u, rfl, hu, -, hb4⟩
    have HB4 := Lib.hid (bthen HB3.out (bthen (balloc _ _) hb4))
    obtain ⟨ua, uc, rfl, -⟩ := hu
    clear hb4 HB3 HC3 HK3 HF z0 z1 z2 z3 z4 r0 r1 r2 r3 r4
    go_wp2_with fail
    refine (plain24_any w4).mono ?_
    rintro e w5 ⟨v5, rfl, hv5, hb5⟩
    have HB5 := Lib.hid (bthen HB4.out hb5)
    have HV5 := Lib.hid hv5
    clear hb5 hv5 HB4
    go_wp2_with fail
    refine (rows_any plainCfg _ _ [] _ HV5.out (slice0 _ _ _ _)).mono ?_
    rw [show auditSpec plainCfg [] = 0 by decide +kernel]
    rintro e w6 ⟨rfl, hb6⟩
    have HB6 := Lib.hid (bthen HB5.out hb6)
    clear hb6 HV5 HB5
    go_wp2_with fail
    refine (plain24_any w6).mono ?_
    rintro e w7 ⟨v7, rfl, hv7, hb7⟩
    have HB7 := Lib.hid (bthen HB6.out hb7)
    have HV7 := Lib.hid hv7
    clear hb7 hv7 HB6
    go_wp2_with fail
    refine (shares_any plainCfg _ _ [] _ HV7.out (slice0 _ _ _ _)).mono ?_
    rw [show sharesErr plainCfg [] = 0 by decide +kernel, show sharesAns plainCfg [] = [0, 0] by decide +kernel]
    rintro e w8 ⟨u8, rfl, hu8, -, hb8⟩
    have HB8 := Lib.hid (bthen HB7.out hb8)
    have HU8 := Lib.hid hu8
    clear hb8 hu8 HV7 HB7
    go_wp2_with (first | (go_at_call 11; refine (num_any _ _).mono ?_; rintro e w' ⟨rfl, hw⟩; subst w') | fail)
    refine (sameInts_any _ _ [0, 0] _ (HU8.out.ext (Ext.alloc _ _)) (slice2 (by decide) (BlockIs.of (blk_new _ _) 0 _ rfl) (BlockIs.of (blk_new _ _) 1 _ rfl))).mono ?_
    rintro e w9 ⟨rfl, hb9⟩
    have HB9 := Lib.hid (bthen HB8.out (bthen (balloc _ _) hb9))
    clear hb9 HB8 HU8
    go_wp2_with (first | (go_at_call 11; refine (num_any _ _).mono ?_; rintro e w' ⟨rfl, hw⟩; subst w') | fail)
    go_ret
    exact ⟨rfl, HB9.out⟩
  · have hCC : CfgIs w1 (.slice pa plainCfg.parts.length pk) (.slice wa plainCfg.windows.length wk) (.slice oa plainCfg.ports.length ok) plainCfg := ⟨HC.out.parts, HC.out.windows, HC.out.ports⟩
    have hR : rowMay plainCfg (⟨3, 0, false, 1 + (1 + (y : Int)), []⟩ : Row) = false := by
      refine decide_eq_false ?_
      have hpl : (plainCfg.parts.length : Int) = 2 := rfl
      show ¬ (0 ≤ (3) ∧ (3) ≤ 1099511627776 ∧ -1 ≤ (0) ∧ (0) < (plainCfg.parts.length : Int) ∧ ((1 + (1 + (y : Int))) = 0 ∨ (1 + (1 + (y : Int))) = 1))
      omega
    have hF := forms_of (c := plainCfg) (R := (⟨3, 0, false, 1 + (1 + (y : Int)), []⟩ : Row)) (r0 := ⟨0, 0, false, 0, []⟩) (by unfold rowsMay; simp [hR]) (by unfold rowsMay; simp [hR])
    have HF := Lib.hid hF
    have HCC := Lib.hid hCC
    clear hF hCC
    go_wp2_with fail
    have hcx := (cfg_box w1 plainCfg _ _ _ 26 HCC.out).ext (Ext.alloc _ (.cells #[.int .i64 (3), .int .i64 (0), .bool false, .int .i64 (1 + (1 + (y : Int))), .slice none 0 0] 45))
    obtain ⟨W2, hW2⟩ : ∃ W2, W2 = (w1.alloc (.cells #[.int .i64 plainCfg.frame, .int .i64 plainCfg.quiet, .slice pa plainCfg.parts.length pk, .slice wa plainCfg.windows.length wk, .slice oa plainCfg.ports.length ok] 26)).alloc (.cells #[.int .i64 (3), .int .i64 (0), .bool false, .int .i64 (1 + (1 + (y : Int))), .slice none 0 0] 45) := ⟨_, rfl⟩
    have hcx : CfgC W2 w1.heap.size (.slice pa plainCfg.parts.length pk) (.slice wa plainCfg.windows.length wk) (.slice oa plainCfg.ports.length ok) plainCfg := by rw [hW2]; exact hcx
    have hbr : W2.heap[w1.heap.size + 1]? = some (.cells #[.int .i64 (3), .int .i64 (0), .bool false, .int .i64 (1 + (1 + (y : Int))), .slice none 0 0] 45 (0, 0)) := by rw [hW2]; simp only [heap_push, Array.getElem?_push, Array.size_push]; simp
    have hbw : Below w.heap.size w W2 := by rw [hW2]; exact bthen HB1.out (bthen (balloc _ _) (balloc _ _))
    have hs2 : w1.heap.size + 1 + 1 = W2.heap.size := by rw [hW2]; simp
    rw [← hW2, hs2]
    obtain ⟨g, hg⟩ : ∃ g, g = w1.heap.size := ⟨_, rfl⟩
    obtain ⟨rb, hrb⟩ : ∃ rb, rb = g + 1 := ⟨_, rfl⟩
    rw [← hg] at hcx hbr
    rw [← hrb] at hbr
    rw [← hg, ← hrb]
    have HCX := Lib.hid hcx
    have HBR := Lib.hid hbr
    have HBW := Lib.hid hbw
    clear hcx hbr hbw hs2 hW2 hg hrb HCC
    refine (rows_any plainCfg _ _ [⟨0, 0, false, 0, []⟩, (⟨3, 0, false, 1 + (1 + (y : Int)), []⟩ : Row)] _ ⟨_, _, _, rfl, HCX.out.is.ext (Ext.alloc _ _)⟩ (slice2 (by decide) (row_of (BlockIs.of (blk_new _ _)) _ rfl rfl rfl rfl rfl rfl) (row_of (BlockIs.of (blk_new _ _)) _ rfl rfl rfl rfl rfl rfl))).mono ?_
    rw [HF.out.1]
    rintro e w3 ⟨rfl, hb3⟩
    have HB3 := Lib.hid (bthen HBW.out (bthen (balloc _ _) hb3))
    have HC3 := Lib.hid (HCX.out.ext ((Ext.alloc _ _).trans (Ext.below hb3)))
    have HK3 := Lib.hid (keep_blk HBR.out (bthen (balloc _ _) hb3))
    clear hb3 HBW HCX HBR
    have z0 := HC3.out.c0; have z1 := HC3.out.c1; have z2 := HC3.out.c2; have z3 := HC3.out.c3; have z4 := HC3.out.c4; unfold IntAt at z0 z1
    have hB := BlockIs.of HK3.out
    have r0 := hB 0 _ rfl
    have r1 := hB 1 _ rfl
    have r2 := hB 2 _ rfl
    have r3 := hB 3 _ rfl
    have r4 := hB 4 _ rfl
    clear hB
    go_wp2_with fail
    refine (shares_any plainCfg _ _ [(⟨3, 0, false, 1 + (1 + (y : Int)), []⟩ : Row)] _ ⟨_, _, _, rfl, HC3.out.is.ext (Ext.alloc _ _)⟩ (rows1 (BlockIs.of (blk_new _ _)) _ rfl rfl rfl rfl rfl rfl)).mono ?_
    rw [HF.out.2.1, HF.out.2.2]
    rintro e w4 ⟨u, rfl, hu, -, hb4⟩
    have HB4 := Lib.hid (bthen HB3.out (bthen (balloc _ _) hb4))
    obtain ⟨ua, uc, rfl, -⟩ := hu
    clear hb4 HB3 HC3 HK3 HF z0 z1 z2 z3 z4 r0 r1 r2 r3 r4
    go_wp2_with fail
    refine (plain24_any w4).mono ?_
    rintro e w5 ⟨v5, rfl, hv5, hb5⟩
    have HB5 := Lib.hid (bthen HB4.out hb5)
    have HV5 := Lib.hid hv5
    clear hb5 hv5 HB4
    go_wp2_with fail
    refine (rows_any plainCfg _ _ [] _ HV5.out (slice0 _ _ _ _)).mono ?_
    rw [show auditSpec plainCfg [] = 0 by decide +kernel]
    rintro e w6 ⟨rfl, hb6⟩
    have HB6 := Lib.hid (bthen HB5.out hb6)
    clear hb6 HV5 HB5
    go_wp2_with fail
    refine (plain24_any w6).mono ?_
    rintro e w7 ⟨v7, rfl, hv7, hb7⟩
    have HB7 := Lib.hid (bthen HB6.out hb7)
    have HV7 := Lib.hid hv7
    clear hb7 hv7 HB6
    go_wp2_with fail
    refine (shares_any plainCfg _ _ [] _ HV7.out (slice0 _ _ _ _)).mono ?_
    rw [show sharesErr plainCfg [] = 0 by decide +kernel, show sharesAns plainCfg [] = [0, 0] by decide +kernel]
    rintro e w8 ⟨u8, rfl, hu8, -, hb8⟩
    have HB8 := Lib.hid (bthen HB7.out hb8)
    have HU8 := Lib.hid hu8
    clear hb8 hu8 HV7 HB7
    go_wp2_with (first | (go_at_call 11; refine (num_any _ _).mono ?_; rintro e w' ⟨rfl, hw⟩; subst w') | fail)
    refine (sameInts_any _ _ [0, 0] _ (HU8.out.ext (Ext.alloc _ _)) (slice2 (by decide) (BlockIs.of (blk_new _ _) 0 _ rfl) (BlockIs.of (blk_new _ _) 1 _ rfl))).mono ?_
    rintro e w9 ⟨rfl, hb9⟩
    have HB9 := Lib.hid (bthen HB8.out (bthen (balloc _ _) hb9))
    clear hb9 HB8 HU8
    go_wp2_with (first | (go_at_call 11; refine (num_any _ _).mono ?_; rintro e w' ⟨rfl, hw⟩; subst w') | fail)
    go_ret
    exact ⟨rfl, HB9.out⟩
  · have hCC : CfgIs w1 (.slice pa plainCfg.parts.length pk) (.slice wa plainCfg.windows.length wk) (.slice oa plainCfg.ports.length ok) quietCfg := ⟨HC.out.parts, HC.out.windows, HC.out.ports⟩
    have hck : checkCfg quietCfg ≠ 0 := by decide +kernel
    have hF := forms_of (c := quietCfg) (R := (⟨3, 0, false, 0, []⟩ : Row)) (r0 := ⟨0, 0, false, 0, []⟩) (by unfold rowsMay; simp [hck]) (by unfold rowsMay; simp [hck])
    have HF := Lib.hid hF
    have HCC := Lib.hid hCC
    clear hF hCC
    go_wp2_with fail
    have hcx := (cfg_box w1 quietCfg _ _ _ 26 HCC.out).ext (Ext.alloc _ (.cells #[.int .i64 (3), .int .i64 (0), .bool false, .int .i64 (0), .slice none 0 0] 45))
    obtain ⟨W2, hW2⟩ : ∃ W2, W2 = (w1.alloc (.cells #[.int .i64 plainCfg.frame, .int .i64 0, .slice pa plainCfg.parts.length pk, .slice wa plainCfg.windows.length wk, .slice oa plainCfg.ports.length ok] 26)).alloc (.cells #[.int .i64 (3), .int .i64 (0), .bool false, .int .i64 (0), .slice none 0 0] 45) := ⟨_, rfl⟩
    have hcx : CfgC W2 w1.heap.size (.slice pa plainCfg.parts.length pk) (.slice wa plainCfg.windows.length wk) (.slice oa plainCfg.ports.length ok) quietCfg := by rw [hW2]; exact hcx
    have hbr : W2.heap[w1.heap.size + 1]? = some (.cells #[.int .i64 (3), .int .i64 (0), .bool false, .int .i64 (0), .slice none 0 0] 45 (0, 0)) := by rw [hW2]; simp only [heap_push, Array.getElem?_push, Array.size_push]; simp
    have hbw : Below w.heap.size w W2 := by rw [hW2]; exact bthen HB1.out (bthen (balloc _ _) (balloc _ _))
    have hs2 : w1.heap.size + 1 + 1 = W2.heap.size := by rw [hW2]; simp
    rw [← hW2, hs2]
    obtain ⟨g, hg⟩ : ∃ g, g = w1.heap.size := ⟨_, rfl⟩
    obtain ⟨rb, hrb⟩ : ∃ rb, rb = g + 1 := ⟨_, rfl⟩
    rw [← hg] at hcx hbr
    rw [← hrb] at hbr
    rw [← hg, ← hrb]
    have HCX := Lib.hid hcx
    have HBR := Lib.hid hbr
    have HBW := Lib.hid hbw
    clear hcx hbr hbw hs2 hW2 hg hrb HCC
    refine (rows_any quietCfg _ _ [⟨0, 0, false, 0, []⟩, (⟨3, 0, false, 0, []⟩ : Row)] _ ⟨_, _, _, rfl, HCX.out.is.ext (Ext.alloc _ _)⟩ (slice2 (by decide) (row_of (BlockIs.of (blk_new _ _)) _ rfl rfl rfl rfl rfl rfl) (row_of (BlockIs.of (blk_new _ _)) _ rfl rfl rfl rfl rfl rfl))).mono ?_
    rw [HF.out.1]
    rintro e w3 ⟨rfl, hb3⟩
    have HB3 := Lib.hid (bthen HBW.out (bthen (balloc _ _) hb3))
    have HC3 := Lib.hid (HCX.out.ext ((Ext.alloc _ _).trans (Ext.below hb3)))
    have HK3 := Lib.hid (keep_blk HBR.out (bthen (balloc _ _) hb3))
    clear hb3 HBW HCX HBR
    have z0 := HC3.out.c0; have z1 := HC3.out.c1; have z2 := HC3.out.c2; have z3 := HC3.out.c3; have z4 := HC3.out.c4; unfold IntAt at z0 z1
    have hB := BlockIs.of HK3.out
    have r0 := hB 0 _ rfl
    have r1 := hB 1 _ rfl
    have r2 := hB 2 _ rfl
    have r3 := hB 3 _ rfl
    have r4 := hB 4 _ rfl
    clear hB
    go_wp2_with fail
    refine (shares_any quietCfg _ _ [(⟨3, 0, false, 0, []⟩ : Row)] _ ⟨_, _, _, rfl, HC3.out.is.ext (Ext.alloc _ _)⟩ (rows1 (BlockIs.of (blk_new _ _)) _ rfl rfl rfl rfl rfl rfl)).mono ?_
    rw [HF.out.2.1, HF.out.2.2]
    rintro e w4 ⟨u, rfl, hu, -, hb4⟩
    have HB4 := Lib.hid (bthen HB3.out (bthen (balloc _ _) hb4))
    obtain ⟨ua, uc, rfl, -⟩ := hu
    clear hb4 HB3 HC3 HK3 HF z0 z1 z2 z3 z4 r0 r1 r2 r3 r4
    go_wp2_with fail
    refine (plain24_any w4).mono ?_
    rintro e w5 ⟨v5, rfl, hv5, hb5⟩
    have HB5 := Lib.hid (bthen HB4.out hb5)
    have HV5 := Lib.hid hv5
    clear hb5 hv5 HB4
    go_wp2_with fail
    refine (rows_any plainCfg _ _ [] _ HV5.out (slice0 _ _ _ _)).mono ?_
    rw [show auditSpec plainCfg [] = 0 by decide +kernel]
    rintro e w6 ⟨rfl, hb6⟩
    have HB6 := Lib.hid (bthen HB5.out hb6)
    clear hb6 HV5 HB5
    go_wp2_with fail
    refine (plain24_any w6).mono ?_
    rintro e w7 ⟨v7, rfl, hv7, hb7⟩
    have HB7 := Lib.hid (bthen HB6.out hb7)
    have HV7 := Lib.hid hv7
    clear hb7 hv7 HB6
    go_wp2_with fail
    refine (shares_any plainCfg _ _ [] _ HV7.out (slice0 _ _ _ _)).mono ?_
    rw [show sharesErr plainCfg [] = 0 by decide +kernel, show sharesAns plainCfg [] = [0, 0] by decide +kernel]
    rintro e w8 ⟨u8, rfl, hu8, -, hb8⟩
    have HB8 := Lib.hid (bthen HB7.out hb8)
    have HU8 := Lib.hid hu8
    clear hb8 hu8 HV7 HB7
    go_wp2_with (first | (go_at_call 11; refine (num_any _ _).mono ?_; rintro e w' ⟨rfl, hw⟩; subst w') | fail)
    refine (sameInts_any _ _ [0, 0] _ (HU8.out.ext (Ext.alloc _ _)) (slice2 (by decide) (BlockIs.of (blk_new _ _) 0 _ rfl) (BlockIs.of (blk_new _ _) 1 _ rfl))).mono ?_
    rintro e w9 ⟨rfl, hb9⟩
    have HB9 := Lib.hid (bthen HB8.out (bthen (balloc _ _) hb9))
    clear hb9 HB8 HU8
    go_wp2_with (first | (go_at_call 11; refine (num_any _ _).mono ?_; rintro e w' ⟨rfl, hw⟩; subst w') | fail)
    go_ret
    exact ⟨rfl, HB9.out⟩
end Go.Proofs.Ytfhebonhcolbdaa
