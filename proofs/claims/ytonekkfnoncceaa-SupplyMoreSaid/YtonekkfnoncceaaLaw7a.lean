/- The law SupplyForms, and what every law of chapter 7 begins with. -/
import Derived.Test.YtonekkfnoncceaaSup2
import Derived.Test.YtonekkfnoncceaaPlain
import Derived.Test.YtonekkfnoncceaaRow
set_option linter.unusedVariables false
set_option linter.unusedSimpArgs false
namespace Go.Proofs.Ytonekkfnoncceaa
open Go.RowKit

set_option maxRecDepth 100000 in
set_option maxHeartbeats 400000 in
theorem num_any (x : Int) (w : World) : Calls Try.prog 12 #[.int .i64 x] w fun e w' => e = .returned (.int .i64 x) ∧ w' = w := by
  go_enter Try.func12, Try.ntmps12
  go_wp2_with fail
  go_ret
  exact ⟨rfl, rfl⟩

set_option maxRecDepth 100000 in
set_option maxHeartbeats 1000000 in
theorem awake7_any (w : World) : Calls Try.prog 13 #[] w fun e w' => e = .returned (.bool true) ∧ Below w.heap.size w w' := by
  go_enter Try.func13, Try.ntmps13
  go_wp2_with fail
  refine (plain7_any w).mono ?_
  rintro e w1 ⟨v, rfl, hc, hb1⟩
  obtain ⟨pv, wv, ov, rfl, hcfg⟩ := hc
  obtain ⟨pa, pk, wa, wk, oa, ok, rfl, rfl, rfl⟩ := hcfg.shape
  have HB1 := Lib.hid (bthen hb1 (balloc w1 (.cells #[.int .i64 plainCfg.frame, .int .i64 plainCfg.quiet, .slice pa plainCfg.parts.length pk, .slice wa plainCfg.windows.length wk, .slice oa plainCfg.ports.length ok] 26)))
  have HC1 := Lib.hid (cfg_box w1 plainCfg _ _ _ 26 hcfg)
  clear hcfg hb1
  have L1 : leastSpec plainCfg 0 5 = (0, 0) := by decide +kernel
  have L2 : leastSpec plainCfg 0 7 = (2, 0) := by decide +kernel
  have L3 : leastSpec plainCfg 0 10 = (5, 0) := by decide +kernel
  have L4 : leastSpec plainCfg 2 1 = (0, 700) := by decide +kernel
  have L5 : leastSpec plainCfg 0 (-1) = (0, 700) := by decide +kernel
  have L := Lib.hid (And.intro L1 (And.intro L2 (And.intro L3 (And.intro L4 L5))))
  clear L1 L2 L3 L4 L5
  generalize hpc : plainCfg = pc at *
  clear hpc
  go_wp2_with fail
  refine (least_any pc _ 0 5 _ ⟨_, _, _, rfl, HC1.out.is⟩).mono ?_
  rw [L.out.1]
  rintro e w2 ⟨rfl, hb2⟩
  have HC2 := Lib.hid (HC1.out.ext (Ext.below hb2))
  have HB2 := Lib.hid (bthen HB1.out hb2)
  clear hb2 HC1 HB1
  have z0 := HC2.out.c0; have z1 := HC2.out.c1; have z2 := HC2.out.c2; have z3 := HC2.out.c3; have z4 := HC2.out.c4; unfold IntAt at z0 z1
  go_wp2_with fail
  refine (least_any pc _ 0 7 _ ⟨_, _, _, rfl, HC2.out.is⟩).mono ?_
  rw [L.out.2.1]
  rintro e w3 ⟨rfl, hb3⟩
  have HC3 := Lib.hid (HC2.out.ext (Ext.below hb3))
  have HB3 := Lib.hid (bthen HB2.out hb3)
  clear hb3 HC2 HB2 z0 z1 z2 z3 z4
  have z0 := HC3.out.c0; have z1 := HC3.out.c1; have z2 := HC3.out.c2; have z3 := HC3.out.c3; have z4 := HC3.out.c4; unfold IntAt at z0 z1
  go_wp2_with fail
  refine (least_any pc _ 0 10 _ ⟨_, _, _, rfl, HC3.out.is⟩).mono ?_
  rw [L.out.2.2.1]
  rintro e w4 ⟨rfl, hb4⟩
  have HC4 := Lib.hid (HC3.out.ext (Ext.below hb4))
  have HB4 := Lib.hid (bthen HB3.out hb4)
  clear hb4 HC3 HB3 z0 z1 z2 z3 z4
  have z0 := HC4.out.c0; have z1 := HC4.out.c1; have z2 := HC4.out.c2; have z3 := HC4.out.c3; have z4 := HC4.out.c4; unfold IntAt at z0 z1
  go_wp2_with fail
  refine (least_any pc _ 2 1 _ ⟨_, _, _, rfl, HC4.out.is⟩).mono ?_
  rw [L.out.2.2.2.1]
  rintro e w5 ⟨rfl, hb5⟩
  have HC5 := Lib.hid (HC4.out.ext (Ext.below hb5))
  have HB5 := Lib.hid (bthen HB4.out hb5)
  clear hb5 HC4 HB4 z0 z1 z2 z3 z4
  have z0 := HC5.out.c0; have z1 := HC5.out.c1; have z2 := HC5.out.c2; have z3 := HC5.out.c3; have z4 := HC5.out.c4; unfold IntAt at z0 z1
  go_wp2_with fail
  refine (least_any pc _ 0 (-1) _ ⟨_, _, _, rfl, HC5.out.is⟩).mono ?_
  rw [L.out.2.2.2.2]
  rintro e w6 ⟨rfl, hb6⟩
  have HB6 := Lib.hid (bthen HB5.out hb6)
  clear hb6 HC5 HB5 z0 z1 z2 z3 z4
  go_wp2_with (first | (go_at_call 12; refine (num_any _ _).mono ?_; rintro e w' ⟨rfl, rfl⟩) | fail)
  go_ret
  exact ⟨rfl, HB6.out⟩

def zeroCfg : Config := ⟨0, 0, [], [], []⟩
theorem zero_v (w : World) : CfgV w (.agg #[.int .i64 0, .int .i64 0, .slice none 0 0, .slice none 0 0, .slice none 0 0]) zeroCfg :=
  ⟨_, _, _, rfl, ⟨slice0 _ _ _ _, slice0 _ _ _ _, slice0 _ _ _ _⟩⟩

set_option maxRecDepth 100000 in
set_option maxHeartbeats 1000000 in
theorem supplyForms_any (p l : Int) (w : World) : Calls Try.prog 5 #[.int .i64 p, .int .i64 l] w fun e w' => e = .returned (.bool true) ∧ Below w.heap.size w w' := by
  go_enter Try.func5, Try.ntmps5
  go_wp2_with fail
  refine (awake7_any w).mono ?_
  rintro e w0 ⟨rfl, hb0⟩
  have HB0 := Lib.hid hb0
  clear hb0
  go_wp2_with fail
  refine (plain7_any w0).mono ?_
  rintro e w1 ⟨v, rfl, hc, hb1⟩
  have HB1 := Lib.hid (bthen HB0.out hb1)
  have HC := Lib.hid hc
  clear hb1 hc HB0
  go_wp2_with fail
  refine (least_any plainCfg _ p l _ HC.out).mono ?_
  rintro e w2 ⟨rfl, hb2⟩
  have HB2 := Lib.hid (bthen HB1.out hb2)
  clear hb2 HC HB1
  have hk : checkCfg plainCfg = 0 := by decide +kernel
  have L0 : leastSpec zeroCfg 0 1 = (0, 700) := by decide +kernel
  have HL0 := Lib.hid L0
  clear L0
  by_cases hg : 0 ≤ p ∧ p < 2 ∧ 0 ≤ l ∧ l ≤ 4096
  · have e1 : (leastSpec plainCfg p l).2 = 0 := by
      unfold leastSpec
      rw [if_neg (by
        have : (plainCfg.parts.length : Int) = 2 := rfl
        omega)]
    have g1 := hg.1
    have g2 := hg.2.1
    have g3 := hg.2.2.1
    have g4 := hg.2.2.2
    rw [e1]
    clear hg e1 hk
    go_wp2_with fail
    refine (least_any zeroCfg _ 0 1 _ (zero_v _)).mono ?_
    rw [HL0.out]
    rintro e w3 ⟨rfl, hb3⟩
    have HB3 := Lib.hid (bthen HB2.out hb3)
    clear hb3 HB2
    go_wp2_with (first | (go_at_call 12; refine (num_any _ _).mono ?_; rintro e w' ⟨rfl, rfl⟩) | fail)
    go_ret
    exact ⟨rfl, HB3.out⟩
  · have e1 : leastSpec plainCfg p l = (0, 700) := by
      unfold leastSpec
      rw [if_pos (by
        have : (plainCfg.parts.length : Int) = 2 := rfl
        omega)]
    rw [e1]
    have HG := Lib.hid hg
    clear hg e1 hk
    go_wp2_with fail
    all_goals
      refine (least_any zeroCfg _ 0 1 _ (zero_v _)).mono ?_
      rw [HL0.out]
      rintro e w3 ⟨rfl, hb3⟩
      have HB3 := Lib.hid (bthen HB2.out hb3)
      clear hb3 HB2
      go_wp2_with (first | (go_at_call 12; refine (num_any _ _).mono ?_; rintro e w' ⟨rfl, rfl⟩) | fail)
      all_goals first
        | (go_ret; exact ⟨rfl, HB3.out⟩)
        | (go_ret; exact ⟨ret_bool (by have := HG.out; simp; omega), HB3.out⟩)
        | (exfalso; have := HG.out; omega)
end Go.Proofs.Ytonekkfnoncceaa
