/- The law Frames: every call of package frame answers as the document's reference, and the configuration stays. -/
import Derived.Test.YtgpefejghhgnmaaLaw6a
import Derived.Test.YtgpefejghhgnmaaRef8
import Derived.Test.YtgpefejghhgnmaaSame
import Derived.Test.YtgpefejghhgnmaaCopy3
set_option linter.unusedVariables false
set_option linter.unusedSimpArgs false
namespace Go.Proofs.Ytgpefejghhgnmaa
open Go.RowKit

set_option maxRecDepth 100000 in
set_option maxHeartbeats 1600000 in
theorem frames_any (c : Config) (v : Value) (t p : Int) (w : World) (hc : CfgV w v c) :
    Calls Try.prog 3 #[v, .int .i64 t, .int .i64 p] w fun e w' => e = .returned (.bool true) ∧ Below w.heap.size w w' := by
  obtain ⟨pv, wv, ov, rfl, hcfg⟩ := hc
  have HB0 := Lib.hid (balloc w (.cells #[.int .i64 c.frame, .int .i64 c.quiet, pv, wv, ov] 26))
  have HC0 := Lib.hid (cfg_box w c _ _ _ 26 hcfg)
  obtain ⟨g, hg⟩ : ∃ g, g = w.heap.size := ⟨_, rfl⟩
  clear hcfg
  go_enter Try.func3, Try.ntmps3
  go_wp2_with fail
  refine (copyCfg_any c _ _ ⟨_, _, _, rfl, HC0.out.is⟩).mono ?_
  rintro e w1 ⟨v', rfl, hv', hb1⟩
  obtain ⟨pv', wv', ov', rfl, hv'⟩ := hv'
  obtain ⟨pa, pk, wa, wk, oa, ok, rfl, rfl, rfl⟩ := hv'.shape
  have HB1 := Lib.hid (bthen HB0.out hb1)
  have HC1 := Lib.hid (HC0.out.ext (Ext.below hb1))
  have HV := Lib.hid hv'
  clear hb1 HB0 HC0 hv'
  go_wp2_with fail
  refine (at_any c _ t _ ⟨_, _, _, rfl, HV.out.ext (Ext.alloc _ _)⟩).mono ?_
  rintro e w2 ⟨rfl, hb2⟩
  have HX2 := Lib.hid ((cfg_box w1 c _ _ _ 26 HV.out).ext (Ext.below hb2))
  have HC2 := Lib.hid ((HC1.out.ext (Ext.alloc _ _)).ext (Ext.below hb2))
  have HB2 := Lib.hid (bthen HB1.out (bthen (balloc _ _) hb2))
  clear hb2 HV HB1 HC1 hg
  have z0 := HC2.out.c0; have z1 := HC2.out.c1; have z2 := HC2.out.c2; have z3 := HC2.out.c3; have z4 := HC2.out.c4; unfold IntAt at z0 z1
  go_wp2_with fail
  refine (refAt_any c _ t _ ⟨_, _, _, rfl, HC2.out.is⟩).mono ?_
  rintro e w3 ⟨rfl, hb3⟩
  have HB3 := Lib.hid (bthen HB2.out hb3)
  have HC3 := Lib.hid (HC2.out.ext (Ext.below hb3))
  have HX3 := Lib.hid (HX2.out.ext (Ext.below hb3))
  clear hb3 HB2 HC2 HX2
  clear z0 z1 z2 z3 z4
  have y0 := HX3.out.c0; have y1 := HX3.out.c1; have y2 := HX3.out.c2; have y3 := HX3.out.c3; have y4 := HX3.out.c4; unfold IntAt at y0 y1
  go_wp2_with fail
  refine (share_any c _ p _ ⟨_, _, _, rfl, HX3.out.is⟩).mono ?_
  rintro e w4 ⟨rfl, hb4⟩
  have HB4 := Lib.hid (bthen HB3.out hb4)
  have HC4 := Lib.hid (HC3.out.ext (Ext.below hb4))
  have HX4 := Lib.hid (HX3.out.ext (Ext.below hb4))
  clear hb4 HB3 HC3 HX3
  clear y0 y1 y2 y3 y4
  have z0 := HC4.out.c0; have z1 := HC4.out.c1; have z2 := HC4.out.c2; have z3 := HC4.out.c3; have z4 := HC4.out.c4; unfold IntAt at z0 z1
  go_wp2_with fail
  refine (refShareS_any c _ p _ ⟨_, _, _, rfl, HC4.out.is⟩).mono ?_
  rintro e w5 ⟨rfl, hb5⟩
  have HB5 := Lib.hid (bthen HB4.out hb5)
  have HC5 := Lib.hid (HC4.out.ext (Ext.below hb5))
  have HX5 := Lib.hid (HX4.out.ext (Ext.below hb5))
  clear hb5 HB4 HC4 HX4
  clear z0 z1 z2 z3 z4
  have y0 := HX5.out.c0; have y1 := HX5.out.c1; have y2 := HX5.out.c2; have y3 := HX5.out.c3; have y4 := HX5.out.c4; unfold IntAt at y0 y1
  go_wp2_with fail
  refine (hyper_any c _ _ ⟨_, _, _, rfl, HX5.out.is⟩).mono ?_
  rintro e w6 ⟨rfl, hb6⟩
  have HB6 := Lib.hid (bthen HB5.out hb6)
  have HC6 := Lib.hid (HC5.out.ext (Ext.below hb6))
  have HX6 := Lib.hid (HX5.out.ext (Ext.below hb6))
  clear hb6 HB5 HC5 HX5
  clear y0 y1 y2 y3 y4
  have z0 := HC6.out.c0; have z1 := HC6.out.c1; have z2 := HC6.out.c2; have z3 := HC6.out.c3; have z4 := HC6.out.c4; unfold IntAt at z0 z1
  go_wp2_with fail
  refine (refHyper_any c _ _ ⟨_, _, _, rfl, HC6.out.is⟩).mono ?_
  rintro e w7 ⟨rfl, hb7⟩
  have HB7 := Lib.hid (bthen HB6.out hb7)
  have HC7 := Lib.hid (HC6.out.ext (Ext.below hb7))
  have HX7 := Lib.hid (HX6.out.ext (Ext.below hb7))
  clear hb7 HB6 HC6 HX6
  clear z0 z1 z2 z3 z4
  have y0 := HX7.out.c0; have y1 := HX7.out.c1; have y2 := HX7.out.c2; have y3 := HX7.out.c3; have y4 := HX7.out.c4; unfold IntAt at y0 y1
  have z0 := HC7.out.c0; have z1 := HC7.out.c1; have z2 := HC7.out.c2; have z3 := HC7.out.c3; have z4 := HC7.out.c4; unfold IntAt at z0 z1
  go_wp2_with (first | (go_at_call 15; refine (num_any _ _).mono ?_; rintro e w' ⟨rfl, hw⟩; subst w') | fail)
  refine (sameConfig_any c _ _ _ ⟨_, _, _, rfl, HX7.out.is⟩ ⟨_, _, _, rfl, HC7.out.is⟩).mono ?_
  rintro e w8 ⟨rfl, hb8⟩
  have HB8 := Lib.hid (bthen HB7.out hb8)
  clear hb8 HB7
  clear y0 y1 y2 y3 y4 z0 z1 z2 z3 z4 HX7 HC7
  go_wp2_with fail
  refine (awake6_any _).mono ?_
  rintro e w9 ⟨rfl, hb9⟩
  have HB9 := Lib.hid (bthen HB8.out hb9)
  clear hb9 HB8
  go_wp2_with fail
  go_ret
  exact ⟨rfl, HB9.out⟩
end Go.Proofs.Ytgpefejghhgnmaa
