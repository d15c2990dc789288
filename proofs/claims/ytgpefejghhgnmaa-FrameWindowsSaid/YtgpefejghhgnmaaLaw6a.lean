/- The law FrameForms, and what every law of chapter 6 begins with. -/
import Derived.Test.YtgpefejghhgnmaaHyp
import Derived.Test.YtgpefejghhgnmaaPlain
import Derived.Test.YtgpefejghhgnmaaRow
set_option linter.unusedVariables false
set_option linter.unusedSimpArgs false
namespace Go.Proofs.Ytgpefejghhgnmaa
open Go.RowKit

set_option maxRecDepth 100000 in
set_option maxHeartbeats 400000 in
theorem num_any (x : Int) (w : World) : Calls Try.prog 15 #[.int .i64 x] w fun e w' => e = .returned (.int .i64 x) ∧ w' = w := by
  go_enter Try.func15, Try.ntmps15
  go_wp2_with fail
  go_ret
  exact ⟨rfl, rfl⟩

def zeroCfg : Config := ⟨0, 0, [], [], []⟩
theorem zero_v (w : World) : CfgV w (.agg #[.int .i64 0, .int .i64 0, .slice none 0 0, .slice none 0 0, .slice none 0 0]) zeroCfg :=
  ⟨_, _, _, rfl, ⟨slice0 _ _ _ _, slice0 _ _ _ _, slice0 _ _ _ _⟩⟩


set_option maxRecDepth 100000 in
set_option maxHeartbeats 1600000 in
theorem awake6_any (w : World) : Calls Try.prog 17 #[] w fun e w' => e = .returned (.bool true) ∧ Below w.heap.size w w' := by
  go_enter Try.func17, Try.ntmps17
  go_wp2_with fail
  refine (plain6_any w).mono ?_
  rintro e w1 ⟨v, rfl, hc, hb1⟩
  obtain ⟨pv, wv, ov, rfl, hcfg⟩ := hc
  obtain ⟨pa, pk, wa, wk, oa, ok, rfl, rfl, rfl⟩ := hcfg.shape
  have HB1 := Lib.hid (bthen hb1 (balloc w1 (.cells #[.int .i64 plainCfg.frame, .int .i64 plainCfg.quiet, .slice pa plainCfg.parts.length pk, .slice wa plainCfg.windows.length wk, .slice oa plainCfg.ports.length ok] 26)))
  have HC1 := Lib.hid (cfg_box w1 plainCfg _ _ _ 26 hcfg)
  clear hcfg hb1
  have L1 : atSpec plainCfg 17 = (1, 0) := by decide +kernel
  have L2 : atSpec plainCfg 5 = (-1, 0) := by decide +kernel
  have L3 : shareSpec plainCfg 0 = (5, 0) := by decide +kernel
  have L4 : hyperSpec plainCfg = (10, 0) := by decide +kernel
  have L5 : atSpec plainCfg (-1) = (0, 600) := by decide +kernel
  have L6 : shareSpec plainCfg 2 = (0, 600) := by decide +kernel
  have L := Lib.hid (And.intro L1 (And.intro L2 (And.intro L3 (And.intro L4 (And.intro L5 L6)))))
  clear L1 L2 L3 L4 L5 L6
  generalize hpc : plainCfg = pc at *
  clear hpc
  go_wp2_with fail
  refine (at_any pc _ 17 _ ⟨_, _, _, rfl, HC1.out.is⟩).mono ?_
  rw [L.out.1]
  rintro e w2 ⟨rfl, hb2⟩
  have HC2 := Lib.hid (HC1.out.ext (Ext.below hb2))
  have HB2 := Lib.hid (bthen HB1.out hb2)
  clear hb2 HC1 HB1
  have z0 := HC2.out.c0; have z1 := HC2.out.c1; have z2 := HC2.out.c2; have z3 := HC2.out.c3; have z4 := HC2.out.c4; unfold IntAt at z0 z1
  go_wp2_with fail
  refine (at_any pc _ 5 _ ⟨_, _, _, rfl, HC2.out.is⟩).mono ?_
  rw [L.out.2.1]
  rintro e w3 ⟨rfl, hb3⟩
  have HC3 := Lib.hid (HC2.out.ext (Ext.below hb3))
  have HB3 := Lib.hid (bthen HB2.out hb3)
  clear hb3 HC2 HB2 z0 z1 z2 z3 z4
  have z0 := HC3.out.c0; have z1 := HC3.out.c1; have z2 := HC3.out.c2; have z3 := HC3.out.c3; have z4 := HC3.out.c4; unfold IntAt at z0 z1
  go_wp2_with fail
  refine (share_any pc _ 0 _ ⟨_, _, _, rfl, HC3.out.is⟩).mono ?_
  rw [L.out.2.2.1]
  rintro e w4 ⟨rfl, hb4⟩
  have HC4 := Lib.hid (HC3.out.ext (Ext.below hb4))
  have HB4 := Lib.hid (bthen HB3.out hb4)
  clear hb4 HC3 HB3 z0 z1 z2 z3 z4
  have z0 := HC4.out.c0; have z1 := HC4.out.c1; have z2 := HC4.out.c2; have z3 := HC4.out.c3; have z4 := HC4.out.c4; unfold IntAt at z0 z1
  go_wp2_with fail
  refine (hyper_any pc _ _ ⟨_, _, _, rfl, HC4.out.is⟩).mono ?_
  rw [L.out.2.2.2.1]
  rintro e w5 ⟨rfl, hb5⟩
  have HC5 := Lib.hid (HC4.out.ext (Ext.below hb5))
  have HB5 := Lib.hid (bthen HB4.out hb5)
  clear hb5 HC4 HB4 z0 z1 z2 z3 z4
  have z0 := HC5.out.c0; have z1 := HC5.out.c1; have z2 := HC5.out.c2; have z3 := HC5.out.c3; have z4 := HC5.out.c4; unfold IntAt at z0 z1
  go_wp2_with fail
  refine (at_any pc _ (-1) _ ⟨_, _, _, rfl, HC5.out.is⟩).mono ?_
  rw [L.out.2.2.2.2.1]
  rintro e w6 ⟨rfl, hb6⟩
  have HC6 := Lib.hid (HC5.out.ext (Ext.below hb6))
  have HB6 := Lib.hid (bthen HB5.out hb6)
  clear hb6 HC5 HB5 z0 z1 z2 z3 z4
  have z0 := HC6.out.c0; have z1 := HC6.out.c1; have z2 := HC6.out.c2; have z3 := HC6.out.c3; have z4 := HC6.out.c4; unfold IntAt at z0 z1
  go_wp2_with fail
  refine (share_any pc _ 2 _ ⟨_, _, _, rfl, HC6.out.is⟩).mono ?_
  rw [L.out.2.2.2.2.2]
  rintro e w7 ⟨rfl, hb7⟩
  have HC7 := Lib.hid (HC6.out.ext (Ext.below hb7))
  have HB7 := Lib.hid (bthen HB6.out hb7)
  clear hb7 HC6 HB6 z0 z1 z2 z3 z4
  go_wp2_with (first | (go_at_call 15; refine (num_any _ _).mono ?_; rintro e w' ⟨rfl, rfl⟩) | fail)
  go_ret
  exact ⟨rfl, HB7.out⟩

set_option maxRecDepth 100000 in
set_option maxHeartbeats 3200000 in
theorem frameForms_any (t p : Int) (w : World) : Calls Try.prog 6 #[.int .i64 t, .int .i64 p] w fun e w' => e = .returned (.bool true) ∧ Below w.heap.size w w' := by
  have hk : checkCfg plainCfg = 0 := by decide +kernel
  have hT : (∃ x, 0 ≤ t ∧ t ≤ 1099511627776 ∧ atSpec plainCfg t = (x, 0)) ∨ (t < 0 ∧ atSpec plainCfg t = (0, 600)) ∨ (0 ≤ t ∧ 1099511627776 < t ∧ atSpec plainCfg t = (0, 600)) := by
    by_cases h : t < 0 ∨ t > 1099511627776
    · have e : atSpec plainCfg t = (0, 600) := by unfold atSpec; rw [if_pos (Or.inr h)]
      rcases Int.lt_or_le t 0 with h1 | h1
      · exact .inr (.inl ⟨h1, e⟩)
      · exact .inr (.inr ⟨h1, by omega, e⟩)
    · exact .inl ⟨_, by omega, by omega, by unfold atSpec; rw [if_neg (by omega)]⟩
  have hP : (∃ x, (p == 0) = true ∧ shareSpec plainCfg p = (x, 0)) ∨ (∃ x, (p == 0) = false ∧ (p == 1) = true ∧ shareSpec plainCfg p = (x, 0)) ∨ ((p == 0) = false ∧ (p == 1) = false ∧ shareSpec plainCfg p = (0, 600)) := by
    have hl : (plainCfg.parts.length : Int) = 2 := rfl
    by_cases h0 : p = 0
    · exact .inl ⟨_, by simp [h0], by unfold shareSpec; rw [if_neg (by omega)]⟩
    · by_cases h1 : p = 1
      · exact .inr (.inl ⟨_, by simp [h0], by simp [h1], by unfold shareSpec; rw [if_neg (by omega)]⟩)
      · exact .inr (.inr ⟨by simp [h0], by simp [h1], by unfold shareSpec; rw [if_pos (by omega)]⟩)
  have L1 : atSpec zeroCfg 0 = (0, 600) := by decide +kernel
  have L2 : shareSpec zeroCfg 0 = (0, 600) := by decide +kernel
  have L3 : hyperSpec zeroCfg = (0, 600) := by decide +kernel
  have L := Lib.hid (And.intro L1 (And.intro L2 L3))
  have HT := Lib.hid hT
  have HP := Lib.hid hP
  clear L1 L2 L3 hT hP hk
  go_enter Try.func6, Try.ntmps6
  go_wp2_with fail
  refine (awake6_any w).mono ?_
  rintro e w0 ⟨rfl, hb0⟩
  have HB0 := Lib.hid hb0
  clear hb0
  go_wp2_with fail
  refine (plain6_any w0).mono ?_
  rintro e w1 ⟨v, rfl, hc, hb1⟩
  obtain ⟨pv, wv, ov, rfl, hcfg⟩ := hc
  obtain ⟨pa, pk, wa, wk, oa, ok, rfl, rfl, rfl⟩ := hcfg.shape
  have HB1 := Lib.hid (bthen HB0.out (bthen hb1 (balloc w1 (.cells #[.int .i64 plainCfg.frame, .int .i64 plainCfg.quiet, .slice pa plainCfg.parts.length pk, .slice wa plainCfg.windows.length wk, .slice oa plainCfg.ports.length ok] 26))))
  have HC1 := Lib.hid (cfg_box w1 plainCfg _ _ _ 26 hcfg)
  clear hcfg hb1 HB0
  generalize hpc : plainCfg = pc at *
  clear hpc
  go_wp2_with fail
  refine (at_any pc _ t _ ⟨_, _, _, rfl, HC1.out.is⟩).mono ?_
  rintro e w2 ⟨rfl, hb2⟩
  have HC2 := Lib.hid (HC1.out.ext (Ext.below hb2))
  have HB2 := Lib.hid (bthen HB1.out hb2)
  clear hb2 HC1 HB1
  have z0 := HC2.out.c0; have z1 := HC2.out.c1; have z2 := HC2.out.c2; have z3 := HC2.out.c3; have z4 := HC2.out.c4; unfold IntAt at z0 z1
  go_wp2_with fail
  refine (share_any pc _ p _ ⟨_, _, _, rfl, HC2.out.is⟩).mono ?_
  rintro e w3 ⟨rfl, hb3⟩
  have HB3 := Lib.hid (bthen HB2.out hb3)
  clear hb3 HC2 HB2 z0 z1 z2 z3 z4
  rcases HT.out with ⟨x, t1, t2, hE⟩ | ⟨t1, hE⟩ | ⟨t1, t2, hE⟩
  all_goals
    rw [hE]
    clear hE HT
    rcases HP.out with ⟨y, p1, hS⟩ | ⟨y, p1, p2, hS⟩ | ⟨p1, p2, hS⟩
    all_goals
      rw [hS]
      clear hS HP
      go_wp2_with fail
      refine (at_any zeroCfg _ 0 _ (zero_v _)).mono ?_
      rw [L.out.1]
      rintro e w4 ⟨rfl, hb4⟩
      have HB4 := Lib.hid (bthen HB3.out hb4)
      clear hb4
      go_wp2_with fail
      refine (share_any zeroCfg _ 0 _ (zero_v _)).mono ?_
      rw [L.out.2.1]
      rintro e w5 ⟨rfl, hb5⟩
      have HB5 := Lib.hid (bthen HB4.out hb5)
      clear hb5
      go_wp2_with fail
      refine (hyper_any zeroCfg _ _ (zero_v _)).mono ?_
      rw [L.out.2.2]
      rintro e w6 ⟨rfl, hb6⟩
      have HB6 := Lib.hid (bthen HB5.out hb6)
      clear hb6
      go_wp2_with (first | (go_at_call 15; refine (num_any _ _).mono ?_; rintro e w' ⟨rfl, rfl⟩) | fail)
      go_ret
      first | exact ⟨rfl, HB6.out⟩ | exact ⟨ret_bool (by simp; omega), HB6.out⟩
end Go.Proofs.Ytgpefejghhgnmaa
