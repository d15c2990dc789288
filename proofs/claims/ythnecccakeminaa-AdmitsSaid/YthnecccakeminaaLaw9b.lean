/- The law Admits: the responses and the admission answer as the reference does, and the configuration stays. -/
import Derived.Test.YthnecccakeminaaLaw9a
import Derived.Test.YthnecccakeminaaSame
import Derived.Test.YthnecccakeminaaCopy3
import Derived.Deep.RegionHeld3
set_option linter.unusedVariables false
set_option linter.unusedSimpArgs false
namespace Go.Proofs.Ythnecccakeminaa
open Go.RowKit

set_option maxRecDepth 100000 in
set_option maxHeartbeats 3000000 in
theorem admits_any (c : Config) (v : Value) (p i : Int) (w : World) (hc : CfgV w v c) :
    Calls Try.prog 3 #[v, .int .i64 p, .int .i64 i] w fun e w' => e = .returned (.bool true) ∧ Below w.heap.size w w' := by
  obtain ⟨pv, wv, ov, rfl, hcfg⟩ := hc
  obtain ⟨qa, qk, ra, rk, sa, sk, rfl, rfl, rfl⟩ := hcfg.shape
  have HB0 := Lib.hid (balloc w (.cells #[.int .i64 c.frame, .int .i64 c.quiet, .slice qa c.parts.length qk, .slice ra c.windows.length rk, .slice sa c.ports.length sk] 26))
  have HC0 := Lib.hid (cfg_box w c _ _ _ 26 hcfg)
  obtain ⟨g, hg⟩ : ∃ g, g = w.heap.size := ⟨_, rfl⟩
  rw [← hg] at HC0
  have HGG := Lib.hid hg
  clear hcfg hg
  go_enter Try.func3, Try.ntmps3
  go_wp2_with fail
  rw [← HGG.out]
  refine (copyCfg_any c _ _ ⟨_, _, _, rfl, HC0.out.is⟩).mono ?_
  rintro e w1 ⟨v', rfl, hv', hb1⟩
  obtain ⟨pv', wv', ov', rfl, hv'⟩ := hv'
  obtain ⟨pa, pk, wa, wk, oa, ok, rfl, rfl, rfl⟩ := hv'.shape
  have HB1 := Lib.hid (bthen HB0.out hb1)
  have HC1 := Lib.hid (HC0.out.ext (Ext.below hb1))
  have HV := Lib.hid hv'
  clear hb1 HB0 HC0 hv'
  obtain ⟨gx, hgx⟩ : ∃ gx, gx = w1.heap.size := ⟨_, rfl⟩
  obtain ⟨wz, hwz⟩ : ∃ wz, wz = w1.alloc (.cells #[.int .i64 c.frame, .int .i64 c.quiet, .slice pa c.parts.length pk, .slice wa c.windows.length wk, .slice oa c.ports.length ok] 26) := ⟨_, rfl⟩
  have hbz : Below w1.heap.size w1 wz := by rw [hwz]; exact balloc _ _
  have HXz := Lib.hid (cfg_box w1 c _ _ _ 26 HV.out)
  rw [← hwz, ← hgx] at HXz
  have HCz := Lib.hid (HC1.out.ext (Ext.below hbz))
  have HBz := Lib.hid (bthen HB1.out hbz)
  clear hbz HC1 HB1 HV
  have y0 := HXz.out.c0; have y1 := HXz.out.c1; have y2 := HXz.out.c2; have y3 := HXz.out.c3; have y4 := HXz.out.c4; unfold IntAt at y0 y1
  go_wp2_with (first | (rw [← hwz, ← hgx]; clear hwz hgx) | fail)
  refine (response_any c _ p i _ ⟨_, _, _, rfl, HXz.out.is⟩).mono ?_
  rintro e w2 ⟨rfl, hb2⟩
  have HX2 := Lib.hid (HXz.out.ext (Ext.below hb2))
  have HC2 := Lib.hid (HCz.out.ext (Ext.below hb2))
  have HB2 := Lib.hid (bthen HBz.out hb2)
  clear hb2 HXz HCz HBz y0 y1 y2 y3 y4
  have z0 := HC2.out.c0; have z1 := HC2.out.c1; have z2 := HC2.out.c2; have z3 := HC2.out.c3; have z4 := HC2.out.c4; unfold IntAt at z0 z1
  go_wp2_with fail
  refine (refResponse_any c _ p i _ ⟨_, _, _, rfl, HC2.out.is⟩).mono ?_
  rintro e w3 ⟨rfl, hb3⟩
  have HB3 := Lib.hid (bthen HB2.out hb3)
  have HC3 := Lib.hid (HC2.out.ext (Ext.below hb3))
  have HX3 := Lib.hid (HX2.out.ext (Ext.below hb3))
  clear hb3 HB2 HC2 HX2
  clear z0 z1 z2 z3 z4
  have y0 := HX3.out.c0; have y1 := HX3.out.c1; have y2 := HX3.out.c2; have y3 := HX3.out.c3; have y4 := HX3.out.c4; unfold IntAt at y0 y1
  go_wp2_with fail
  refine (admit_any c _ _ ⟨_, _, _, rfl, HX3.out.is⟩).mono ?_
  rintro e w4 ⟨rfl, hb4⟩
  have HB4 := Lib.hid (bthen HB3.out hb4)
  have HC4 := Lib.hid (HC3.out.ext (Ext.below hb4))
  have HX4 := Lib.hid (HX3.out.ext (Ext.below hb4))
  clear hb4 HB3 HC3 HX3
  clear y0 y1 y2 y3 y4
  go_wp2_with fail
  have hD : Below w4.heap.size w4 w4.drew := below_drew (Below.refl _ _)
  have z0 := HC4.out.c0; have z1 := HC4.out.c1; have z2 := HC4.out.c2; have z3 := HC4.out.c3; have z4 := HC4.out.c4; unfold IntAt at z0 z1
  have y0 := HX4.out.c0; have y1 := HX4.out.c1; have y2 := HX4.out.c2; have y3 := HX4.out.c3; have y4 := HX4.out.c4; unfold IntAt at y0 y1
  have hS0 : (fun w' : World => w'.cell? ⟨g, 0, none⟩ = some (.int .i64 c.frame) ∧ w'.cell? ⟨g, 1, none⟩ = some (.int .i64 c.quiet) ∧ w'.cell? ⟨g, 2, none⟩ = some (.slice qa c.parts.length qk) ∧ w'.cell? ⟨g, 3, none⟩ = some (.slice ra c.windows.length rk) ∧ w'.cell? ⟨g, 4, none⟩ = some (.slice sa c.ports.length sk) ∧ w'.cell? ⟨gx, 0, none⟩ = some (.int .i64 c.frame) ∧ w'.cell? ⟨gx, 1, none⟩ = some (.int .i64 c.quiet) ∧ w'.cell? ⟨gx, 2, none⟩ = some (.slice pa c.parts.length pk) ∧ w'.cell? ⟨gx, 3, none⟩ = some (.slice wa c.windows.length wk) ∧ w'.cell? ⟨gx, 4, none⟩ = some (.slice oa c.ports.length ok) ∧ Below w4.heap.size w4 w') w4.drew := ⟨z0, z1, z2, z3, z4, y0, y1, y2, y3, y4, hD⟩
  have kS : ∀ W W' : World, (fun w' : World => w'.cell? ⟨g, 0, none⟩ = some (.int .i64 c.frame) ∧ w'.cell? ⟨g, 1, none⟩ = some (.int .i64 c.quiet) ∧ w'.cell? ⟨g, 2, none⟩ = some (.slice qa c.parts.length qk) ∧ w'.cell? ⟨g, 3, none⟩ = some (.slice ra c.windows.length rk) ∧ w'.cell? ⟨g, 4, none⟩ = some (.slice sa c.ports.length sk) ∧ w'.cell? ⟨gx, 0, none⟩ = some (.int .i64 c.frame) ∧ w'.cell? ⟨gx, 1, none⟩ = some (.int .i64 c.quiet) ∧ w'.cell? ⟨gx, 2, none⟩ = some (.slice pa c.parts.length pk) ∧ w'.cell? ⟨gx, 3, none⟩ = some (.slice wa c.windows.length wk) ∧ w'.cell? ⟨gx, 4, none⟩ = some (.slice oa c.ports.length ok) ∧ Below w4.heap.size w4 w') W → Below W.heap.size W W' → (fun w' : World => w'.cell? ⟨g, 0, none⟩ = some (.int .i64 c.frame) ∧ w'.cell? ⟨g, 1, none⟩ = some (.int .i64 c.quiet) ∧ w'.cell? ⟨g, 2, none⟩ = some (.slice qa c.parts.length qk) ∧ w'.cell? ⟨g, 3, none⟩ = some (.slice ra c.windows.length rk) ∧ w'.cell? ⟨g, 4, none⟩ = some (.slice sa c.ports.length sk) ∧ w'.cell? ⟨gx, 0, none⟩ = some (.int .i64 c.frame) ∧ w'.cell? ⟨gx, 1, none⟩ = some (.int .i64 c.quiet) ∧ w'.cell? ⟨gx, 2, none⟩ = some (.slice pa c.parts.length pk) ∧ w'.cell? ⟨gx, 3, none⟩ = some (.slice wa c.windows.length wk) ∧ w'.cell? ⟨gx, 4, none⟩ = some (.slice oa c.ports.length ok) ∧ Below w4.heap.size w4 w') W' := by
    rintro W W' ⟨a0, a1, a2, a3, a4, a5, a6, a7, a8, a9, hB⟩ hb
    exact ⟨Ext.below hb _ _ a0, Ext.below hb _ _ a1, Ext.below hb _ _ a2, Ext.below hb _ _ a3, Ext.below hb _ _ a4, Ext.below hb _ _ a5, Ext.below hb _ _ a6, Ext.below hb _ _ a7, Ext.below hb _ _ a8, Ext.below hb _ _ a9, bthen hB hb⟩
  go_region_held3 (fun w' : World => w'.cell? ⟨g, 0, none⟩ = some (.int .i64 c.frame) ∧ w'.cell? ⟨g, 1, none⟩ = some (.int .i64 c.quiet) ∧ w'.cell? ⟨g, 2, none⟩ = some (.slice qa c.parts.length qk) ∧ w'.cell? ⟨g, 3, none⟩ = some (.slice ra c.windows.length rk) ∧ w'.cell? ⟨g, 4, none⟩ = some (.slice sa c.ports.length sk) ∧ w'.cell? ⟨gx, 0, none⟩ = some (.int .i64 c.frame) ∧ w'.cell? ⟨gx, 1, none⟩ = some (.int .i64 c.quiet) ∧ w'.cell? ⟨gx, 2, none⟩ = some (.slice pa c.parts.length pk) ∧ w'.cell? ⟨gx, 3, none⟩ = some (.slice wa c.windows.length wk) ∧ w'.cell? ⟨gx, 4, none⟩ = some (.slice oa c.ports.length ok) ∧ Below w4.heap.size w4 w')
    (first | exact hS0 | exact kS _ _ hS0 hb7 | exact kS _ _ (kS _ _ hS0 hb7) hb8 | exact kS _ _ (kS _ _ (kS _ _ hS0 hb7) hb8) hb9)
    (first
      | (go_at_call 13; refine (num_any _ _).mono ?_; rintro e w' ⟨rfl, hw⟩; subst w')
      | (go_at_call 14; refine (refAdmit_any c _ _ ⟨_, _, _, rfl, HC4.out.is.ext (Ext.below hD)⟩).mono ?_; rintro e w7 ⟨rfl, hb7⟩)
      | (go_at_call 15; refine (sameConfig_any c _ _ _ ⟨_, _, _, rfl, HX4.out.is.ext (Ext.below (bthen hD hb7))⟩ ⟨_, _, _, rfl, HC4.out.is.ext (Ext.below (bthen hD hb7))⟩).mono ?_; rintro e w8 ⟨rfl, hb8⟩)
      | (go_at_call 16; refine (awake9_any _).mono ?_; rintro e w9 ⟨rfl, hb9⟩))
  all_goals
    go_wp2_with fail
    go_ret
    exact ⟨rfl, bthen HB4.out (bthen (bthen (bthen hD hb7) hb8) hb9)⟩
end Go.Proofs.Ythnecccakeminaa
