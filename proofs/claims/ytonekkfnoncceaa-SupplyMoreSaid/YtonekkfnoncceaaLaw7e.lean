/- The law Supplies: of a copy, Least answers as the plain sum says. -/
import Derived.Test.YtonekkfnoncceaaLaw7b
import Derived.Test.YtonekkfnoncceaaCopy3
set_option linter.unusedVariables false
set_option linter.unusedSimpArgs false
namespace Go.Proofs.Ytonekkfnoncceaa
open Go.RowKit

set_option maxRecDepth 100000 in
set_option maxHeartbeats 1600000 in
theorem supplies_any (c : Config) (v : Value) (p le : Int) (w : World) (hc : CfgV w v c) :
    Calls Try.prog 3 #[v, .int .i64 p, .int .i64 le] w fun e w' => e = .returned (.bool true) ∧ Below w.heap.size w w' := by
  obtain ⟨pv, wv, ov, rfl, hcfg⟩ := hc
  have HB0 := Lib.hid (balloc w (.cells #[.int .i64 c.frame, .int .i64 c.quiet, pv, wv, ov] 26))
  have HC0 := Lib.hid (cfg_box w c _ _ _ 26 hcfg)
  obtain ⟨g, hg⟩ : ∃ g, g = w.heap.size := ⟨_, rfl⟩
  clear hcfg
  go_enter Try.func3, Try.ntmps3
  go_wp2_with fail
  refine (copyCfg_any c _ _ ⟨_, _, _, rfl, HC0.out.is⟩).mono ?_
  rintro e w1 ⟨v', rfl, hv', hb1⟩
  have HB1 := Lib.hid (bthen HB0.out hb1)
  have HC1 := Lib.hid (HC0.out.ext (Ext.below hb1))
  have HV := Lib.hid hv'
  clear hb1 HB0 HC0 hv'
  go_wp2_with fail
  refine (least_any c _ p le _ HV.out).mono ?_
  rintro e w2 ⟨rfl, hb2⟩
  have HB2 := Lib.hid (bthen HB1.out hb2)
  have HC2 := Lib.hid (HC1.out.ext (Ext.below hb2))
  clear hb2 HB1 HC1 HV
  have z0 := HC2.out.c0; have z1 := HC2.out.c1; have z2 := HC2.out.c2; have z3 := HC2.out.c3; have z4 := HC2.out.c4; unfold IntAt at z0 z1
  go_wp2_with fail
  refine (refLeastS_any c _ p le _ ⟨_, _, _, rfl, HC2.out.is⟩).mono ?_
  rintro e w3 ⟨rfl, hb3⟩
  have HB3 := Lib.hid (bthen HB2.out hb3)
  clear hb3 HB2 HC2 z0 z1 z2 z3 z4
  go_wp2_with (first | (go_at_call 12; refine (num_any _ _).mono ?_; rintro e w' ⟨rfl, hw⟩; subst w') | fail)
  refine (awake7_any _).mono ?_
  rintro e w4 ⟨rfl, hb4⟩
  have HB4 := Lib.hid (bthen HB3.out hb4)
  clear hb4
  go_wp2_with fail
  go_ret
  exact ⟨ret_bool (by simp), HB4.out⟩
end Go.Proofs.Ytonekkfnoncceaa
