/- The law Audits: the audit and the shares answer as the reference does, and the rows stay. -/
import Derived.Test.YtfhebonhcolbdaaLaw24a
import Derived.Test.YtfhebonhcolbdaaAud7
import Derived.Deep.RegionHeld3
set_option linter.unusedVariables false
set_option linter.unusedSimpArgs false
namespace Go.Proofs.Ytfhebonhcolbdaa
open Go.RowKit

set_option maxRecDepth 100000 in
set_option maxHeartbeats 1600000 in
theorem audits_any (c : Config) (v : Value) (rs : List Row) (rv : Value) (w : World) (hc : CfgV w v c) (hr : RowsV w rv rs) :
    Calls Try.prog 3 #[v, rv] w fun e w' => e = .returned (.bool true) ∧ Below w.heap.size w w' := by
  obtain ⟨pv, wv, ov, rfl, hcfg⟩ := hc
  obtain ⟨pa, pk, wa, wk, oa, ok, rfl, rfl, rfl⟩ := hcfg.shape
  have HB0 := Lib.hid (balloc w (.cells #[.int .i64 c.frame, .int .i64 c.quiet, .slice pa c.parts.length pk, .slice wa c.windows.length wk, .slice oa c.ports.length ok] 26))
  have HC0 := Lib.hid (cfg_box w c _ _ _ 26 hcfg)
  have HR0 := Lib.hid (hr.ext (Ext.alloc w (.cells #[.int .i64 c.frame, .int .i64 c.quiet, .slice pa c.parts.length pk, .slice wa c.windows.length wk, .slice oa c.ports.length ok] 26)))
  obtain ⟨ra, rc, rfl, -⟩ := hr
  obtain ⟨g, hg⟩ : ∃ g, g = w.heap.size := ⟨_, rfl⟩
  rw [← hg] at HC0
  have HG := Lib.hid hg
  clear hcfg hg
  go_enter Try.func3, Try.ntmps3
  go_wp2_with fail
  rw [← HG.out]
  refine (copyRows_any _ rs _ HR0.out).mono ?_
  rintro e w1 ⟨x, rfl, -, hx, hb1⟩
  have HB1 := Lib.hid (bthen HB0.out hb1)
  have HC1 := Lib.hid (HC0.out.ext (Ext.below hb1))
  have HR1 := Lib.hid (HR0.out.ext (Ext.below hb1))
  have HX1 := Lib.hid hx
  obtain ⟨xa, xc, rfl, -⟩ := hx
  clear hb1 HB0 HC0 HR0
  have z0 := HC1.out.c0; have z1 := HC1.out.c1; have z2 := HC1.out.c2; have z3 := HC1.out.c3; have z4 := HC1.out.c4; unfold IntAt at z0 z1
  go_wp2_with fail
  refine (rows_any c _ _ rs _ ⟨_, _, _, rfl, HC1.out.is⟩ HX1.out).mono ?_
  rintro e w2 ⟨rfl, hb2⟩
  have HB2 := Lib.hid (bthen HB1.out hb2)
  have HC2 := Lib.hid (HC1.out.ext (Ext.below hb2))
  have HR2 := Lib.hid (HR1.out.ext (Ext.below hb2))
  have HX2 := Lib.hid (HX1.out.ext (Ext.below hb2))
  clear hb2 HB1 HC1 HR1 HX1
  clear z0 z1 z2 z3 z4
  have z0 := HC2.out.c0; have z1 := HC2.out.c1; have z2 := HC2.out.c2; have z3 := HC2.out.c3; have z4 := HC2.out.c4; unfold IntAt at z0 z1
  go_wp2_with fail
  refine (shares_any c _ _ rs _ ⟨_, _, _, rfl, HC2.out.is⟩ HX2.out).mono ?_
  rintro e w3 ⟨u, rfl, hu, -, hb3⟩
  have HB3 := Lib.hid (bthen HB2.out hb3)
  have HC3 := Lib.hid (HC2.out.ext (Ext.below hb3))
  have HR3 := Lib.hid (HR2.out.ext (Ext.below hb3))
  have HX3 := Lib.hid (HX2.out.ext (Ext.below hb3))
  have HU3 := Lib.hid hu
  clear hb3 HB2 HC2 HR2 HX2 hu z0 z1 z2 z3 z4
  have z0 := HC3.out.c0; have z1 := HC3.out.c1; have z2 := HC3.out.c2; have z3 := HC3.out.c3; have z4 := HC3.out.c4; unfold IntAt at z0 z1
  go_wp2_with fail
  refine (refShares_any c _ _ rs _ ⟨_, _, _, rfl, HC3.out.is⟩ HR3.out).mono ?_
  rintro e w4 ⟨u', rfl, hu, hb4⟩
  have HB4 := Lib.hid (bthen HB3.out hb4)
  have HC4 := Lib.hid (HC3.out.ext (Ext.below hb4))
  have HR4 := Lib.hid (HR3.out.ext (Ext.below hb4))
  have HX4 := Lib.hid (HX3.out.ext (Ext.below hb4))
  have HU4 := Lib.hid (HU3.out.ext (Ext.below hb4))
  have HV4 := Lib.hid hu
  clear hb4 HB3 HC3 HR3 HX3 HU3 hu z0 z1 z2 z3 z4
  go_wp2_with fail
  have hD : Below w4.heap.size w4 w4.drew := below_drew (Below.refl _ _)
  have z0 := HC4.out.c0; have z1 := HC4.out.c1; have z2 := HC4.out.c2; have z3 := HC4.out.c3; have z4 := HC4.out.c4; unfold IntAt at z0 z1
  go_region_held3 (fun w' => w'.cell? ⟨g, 0, none⟩ = some (.int .i64 c.frame) ∧ w'.cell? ⟨g, 1, none⟩ = some (.int .i64 c.quiet) ∧ w'.cell? ⟨g, 2, none⟩ = some (.slice pa c.parts.length pk) ∧ w'.cell? ⟨g, 3, none⟩ = some (.slice wa c.windows.length wk) ∧ w'.cell? ⟨g, 4, none⟩ = some (.slice oa c.ports.length ok) ∧ Below w4.heap.size w4 w')
    (first | exact ⟨z0, z1, z2, z3, z4, hD⟩ | exact ⟨Ext.below hb5 _ _ (z0), Ext.below hb5 _ _ (z1), Ext.below hb5 _ _ (z2), Ext.below hb5 _ _ (z3), Ext.below hb5 _ _ (z4), bthen (hD) hb5⟩ | exact ⟨Ext.below hb6 _ _ (Ext.below hb5 _ _ (z0)), Ext.below hb6 _ _ (Ext.below hb5 _ _ (z1)), Ext.below hb6 _ _ (Ext.below hb5 _ _ (z2)), Ext.below hb6 _ _ (Ext.below hb5 _ _ (z3)), Ext.below hb6 _ _ (Ext.below hb5 _ _ (z4)), bthen (bthen (hD) hb5) hb6⟩ | exact ⟨Ext.below hb7 _ _ (Ext.below hb6 _ _ (Ext.below hb5 _ _ (z0))), Ext.below hb7 _ _ (Ext.below hb6 _ _ (Ext.below hb5 _ _ (z1))), Ext.below hb7 _ _ (Ext.below hb6 _ _ (Ext.below hb5 _ _ (z2))), Ext.below hb7 _ _ (Ext.below hb6 _ _ (Ext.below hb5 _ _ (z3))), Ext.below hb7 _ _ (Ext.below hb6 _ _ (Ext.below hb5 _ _ (z4))), bthen (bthen (bthen (hD) hb5) hb6) hb7⟩ | exact ⟨Ext.below hb8 _ _ (Ext.below hb7 _ _ (Ext.below hb6 _ _ (Ext.below hb5 _ _ (z0)))), Ext.below hb8 _ _ (Ext.below hb7 _ _ (Ext.below hb6 _ _ (Ext.below hb5 _ _ (z1)))), Ext.below hb8 _ _ (Ext.below hb7 _ _ (Ext.below hb6 _ _ (Ext.below hb5 _ _ (z2)))), Ext.below hb8 _ _ (Ext.below hb7 _ _ (Ext.below hb6 _ _ (Ext.below hb5 _ _ (z3)))), Ext.below hb8 _ _ (Ext.below hb7 _ _ (Ext.below hb6 _ _ (Ext.below hb5 _ _ (z4)))), bthen (bthen (bthen (bthen (hD) hb5) hb6) hb7) hb8⟩)
    (first
      | (go_at_call 11; refine (num_any _ _).mono ?_; rintro e w' ⟨rfl, hw⟩; subst w')
      | (go_at_call 12; refine (refAudit_any c _ _ rs _ ⟨_, _, _, rfl, HC4.out.is.ext (Ext.below hD)⟩ (HR4.out.ext (Ext.below hD))).mono ?_; rintro e w5 ⟨rfl, hb5⟩)
      | (go_at_call 13; refine (sameInts_any _ _ _ _ (HU4.out.ext (Ext.below (bthen hD hb5))) (HV4.out.ext (Ext.below (bthen hD hb5)))).mono ?_; rintro e w6 ⟨rfl, hb6⟩)
      | (go_at_call 14; refine (sameRows_any _ _ rs _ (HX4.out.ext (Ext.below (bthen (bthen hD hb5) hb6))) (HR4.out.ext (Ext.below (bthen (bthen hD hb5) hb6)))).mono ?_; rintro e w7 ⟨rfl, hb7⟩)
      | (go_at_call 15; refine (awake24_any _).mono ?_; rintro e w8 ⟨rfl, hb8⟩))
  all_goals
    go_wp2_with fail
    go_ret
    exact ⟨rfl, bthen HB4.out (bthen (bthen (bthen (bthen (hD) hb5) hb6) hb7) hb8)⟩
end Go.Proofs.Ytfhebonhcolbdaa
