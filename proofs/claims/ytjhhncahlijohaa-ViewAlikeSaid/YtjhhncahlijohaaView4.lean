/- view.Glance. -/
import Derived.Test.YtjhhncahlijohaaView3
set_option linter.unusedVariables false
set_option linter.unusedSimpArgs false
namespace Go.Proofs.Ytjhhncahlijohaa
open Go.RowKit

/-- A row as a value. -/
def RowVal (w : World) (v : Value) (r : Row) : Prop := ∃ ev, v = .agg #[.int .i64 r.tick, .int .i64 r.owner, .bool r.dealt, .int .i64 r.mode, ev] ∧ EventsV w ev r.events
theorem RowVal.ext {w w' : World} (e : Ext w w') {v : Value} {r : Row} (h : RowVal w v r) : RowVal w' v r := by
  obtain ⟨ev, h1, h2⟩ := h
  exact ⟨ev, h1, h2.ext e⟩
abbrev glance0 : Value := .agg #[.int .i64 0, .int .i64 0, .int .i64 0, .slice none 0 0]
def glanceSpec (c : Config) (r : Row) : Option Glance := if checkCfg c ≠ 0 ∨ r.owner < -1 ∨ (c.parts.length : Int) ≤ r.owner then none else some (glanceOf c r)
def GlanceRes (W : World) (B : Nat) (v : Value) : Option Glance → Prop
  | none => v = .tuple #[glance0, .int .i64 2300]
  | some x => ∃ gv, v = .tuple #[gv, .int .i64 0] ∧ GlanceO W B gv x
set_option maxRecDepth 100000 in
set_option maxHeartbeats 1000000 in
theorem Glance_any (c : Config) (cv : Value) (r : Row) (rv : Value) (w : World) (hc : CfgV w cv c) (hr : RowVal w rv r) :
    Calls Try.prog 7 #[cv, rv] w fun e w' => ∃ v, e = .returned v ∧ GlanceRes w' w.heap.size v (glanceSpec c r) ∧ Below w.heap.size w w' := by
  obtain ⟨pv, wv, ov, rfl, hcfg⟩ := hc
  obtain ⟨ev, rfl, hev⟩ := hr
  have k1 := cfg_box w c _ _ _ 26 hcfg
  obtain ⟨wa, hw_wa⟩ : ∃ wa, wa = w.alloc (.cells #[.int .i64 c.frame, .int .i64 c.quiet, pv, wv, ov] 26) := ⟨_, rfl⟩
  obtain ⟨ga, hg_ga⟩ : ∃ ga, ga = w.heap.size := ⟨_, rfl⟩
  have hb_wa : Below w.heap.size w wa := by rw [hw_wa]; exact balloc _ _
  have hk_ga : wa.heap[ga]? = some (.cells #[.int .i64 c.frame, .int .i64 c.quiet, pv, wv, ov] 26 (0, 0)) := by rw [hw_wa, hg_ga]; exact blk_new _ _
  have hs_wa : wa.heap.size = w.heap.size + 1 := by rw [hw_wa]; simp
  obtain ⟨wb, hw_wb⟩ : ∃ wb, wb = wa.alloc (.cells #[.int .i64 r.tick, .int .i64 r.owner, .bool r.dealt, .int .i64 r.mode, ev] 29) := ⟨_, rfl⟩
  obtain ⟨gb, hg_gb⟩ : ∃ gb, gb = wa.heap.size := ⟨_, rfl⟩
  have hb_wb : Below wa.heap.size wa wb := by rw [hw_wb]; exact balloc _ _
  have hk_gb : wb.heap[gb]? = some (.cells #[.int .i64 r.tick, .int .i64 r.owner, .bool r.dealt, .int .i64 r.mode, ev] 29 (0, 0)) := by rw [hw_wb, hg_gb]; exact blk_new _ _
  have hs_wb : wb.heap.size = wa.heap.size + 1 := by rw [hw_wb]; simp
  obtain ⟨wc, hw_wc⟩ : ∃ wc, wc = wb.alloc (.cells #[.int .i64 0, .int .i64 0, .int .i64 0, .slice none 0 0] 32) := ⟨_, rfl⟩
  obtain ⟨gc, hg_gc⟩ : ∃ gc, gc = wb.heap.size := ⟨_, rfl⟩
  have hb_wc : Below wb.heap.size wb wc := by rw [hw_wc]; exact balloc _ _
  have hk_gc : wc.heap[gc]? = some (.cells #[.int .i64 0, .int .i64 0, .int .i64 0, .slice none 0 0] 32 (0, 0)) := by rw [hw_wc, hg_gc]; exact blk_new _ _
  have hs_wc : wc.heap.size = wb.heap.size + 1 := by rw [hw_wc]; simp
  rw [← hw_wa, ← hg_ga] at k1
  have HB := Lib.hid (bthen hb_wa (bthen hb_wb hb_wc))
  have HC := Lib.hid (k1.ext (Ext.below (bthen hb_wb hb_wc)))
  have hkb := keep_at hk_gb hb_wc
  have HR : Hid (RowAt wc gb 0 r) := Lib.hid ⟨BlockIs.of hkb 0 _ rfl, BlockIs.of hkb 1 _ rfl, BlockIs.of hkb 2 _ rfl, BlockIs.of hkb 3 _ rfl, ev, BlockIs.of hkb 4 _ rfl, hev.ext (Ext.below HB.out)⟩
  have HK := Lib.hid hk_gc
  have HS := Lib.hid (show w.heap.size ≤ gc by omega)
  clear k1 hkb hk_ga hk_gb hk_gc hb_wa hb_wb hb_wc hcfg hev
  have z0 := HC.out.c0; have z1 := HC.out.c1; have z2 := HC.out.c2; have z3 := HC.out.c3; have z4 := HC.out.c4; unfold IntAt at z0 z1
  go_enter Try.func7, Try.ntmps7
  go_wp2_with fail
  rw [← hw_wa, ← hw_wb, ← hw_wc]
  (try rw [← hs_wa])
  (try rw [← hs_wb])
  (try rw [← hg_gc])
  (try rw [← hg_gb])
  (try rw [← hg_ga])
  clear hw_wa hw_wb hw_wc hg_ga hg_gb hg_gc hs_wa hs_wb hs_wc
  refine (check_any c _ _ ⟨_, _, _, rfl, HC.out.is⟩).mono ?_
  rintro e w1 ⟨rfl, hb1⟩
  have HBX := Lib.hid (bthen HB.out hb1)
  have hk8 := keep_at HK.out hb1
  have HC1 := Lib.hid (HC.out.ext (Ext.below hb1))
  have HR1 := Lib.hid (HR.out.ext (Ext.below hb1))
  clear hb1 z0 z1 z2 z3 z4 HB HC HR HK
  by_cases hck : checkCfg c = 0
  · rw [hck]
    by_cases hbad : rowBad c r
    · have SPEC := Lib.hid (show glanceSpec c r = none by unfold glanceSpec; rw [if_pos (by unfold rowBad at hbad; omega)])
      go_wp2_with fail
      refine (glance_bad ga gb 0 c r _ HC1.out.p HR1.out hbad).mono ?_
      rintro e W ⟨rfl, hb2⟩
      replace HBX := Lib.hid (bthen HBX.out hb2)
      replace hk8 := keep_at hk8 hb2
      clear hb2 hbad hck
      obtain ⟨w8, hw_w8⟩ : ∃ w8, w8 = put4 W gc (.int .i64 0) (.int .i64 0) (.int .i64 0) (.slice none 0 0) := ⟨_, rfl⟩
      have hk_w8 := put4_at hk8 (.int .i64 0) (.int .i64 0) (.int .i64 0) (.slice none 0 0)
      have hg_w8 := put4_grown W gc (.int .i64 0) (.int .i64 0) (.int .i64 0) (.slice none 0 0)
      rw [← hw_w8] at hk_w8 hg_w8
      unfold put4 at hw_w8
      have o_w8_0 := BlockIs.of hk8 0 _ rfl
      have o_w8_1 := BlockIs.of hk8 1 _ rfl
      have o_w8_2 := BlockIs.of hk8 2 _ rfl
      have o_w8_3 := BlockIs.of hk8 3 _ rfl
      have f_w8 := thaw hk8
      have e_w8_0 := BlockIs.of hk_w8 0 _ rfl
      have e_w8_1 := BlockIs.of hk_w8 1 _ rfl
      have e_w8_2 := BlockIs.of hk_w8 2 _ rfl
      have e_w8_3 := BlockIs.of hk_w8 3 _ rfl
      have HB8 := Lib.hid (bput HBX.out hg_w8 HS.out (Nat.le_refl _))
      clear hk_w8 hg_w8 hk8
      go_wp2_with fail
      rw [← hw_w8]
      clear hw_w8
      refine bodyPost_ret (v := .tuple #[glance0, .int .i64 2300]) (by simp [results, Try.results7, go_sem, e_w8_0, e_w8_1, e_w8_2, e_w8_3]) rfl ⟨_, rfl, ?_, HB8.out⟩
      rw [SPEC.out]
      exact rfl
    · have SPEC := Lib.hid (show glanceSpec c r = some (glanceOf c r) by unfold glanceSpec; rw [if_neg (by unfold rowBad at hbad; omega)])
      go_wp2_with fail
      refine (glance_ok ga gb 0 c r _ HC1.out.p HR1.out hbad).mono ?_
      rintro e W ⟨gv, rfl, ⟨ev', rfl, hev'⟩, hb2⟩
      obtain ⟨va, vc, rfl⟩ := own_shape hev'
      have hb2s := HBX.out.size
      replace HBX := Lib.hid (bthen HBX.out hb2)
      replace hk8 := keep_at hk8 hb2
      clear hb2 hbad hck
      obtain ⟨w8, hw_w8⟩ : ∃ w8, w8 = put4 W gc (.int .i64 (glanceOf c r).tick) (.int .i64 (glanceOf c r).owner) (.int .i64 (glanceOf c r).mode) (.slice va (glanceOf c r).events.length vc) := ⟨_, rfl⟩
      have hk_w8 := put4_at hk8 (.int .i64 (glanceOf c r).tick) (.int .i64 (glanceOf c r).owner) (.int .i64 (glanceOf c r).mode) (.slice va (glanceOf c r).events.length vc)
      have hg_w8 := put4_grown W gc (.int .i64 (glanceOf c r).tick) (.int .i64 (glanceOf c r).owner) (.int .i64 (glanceOf c r).mode) (.slice va (glanceOf c r).events.length vc)
      rw [← hw_w8] at hk_w8 hg_w8
      unfold put4 at hw_w8
      have o_w8_0 := BlockIs.of hk8 0 _ rfl
      have o_w8_1 := BlockIs.of hk8 1 _ rfl
      have o_w8_2 := BlockIs.of hk8 2 _ rfl
      have o_w8_3 := BlockIs.of hk8 3 _ rfl
      have f_w8 := thaw hk8
      have e_w8_0 := BlockIs.of hk_w8 0 _ rfl
      have e_w8_1 := BlockIs.of hk_w8 1 _ rfl
      have e_w8_2 := BlockIs.of hk_w8 2 _ rfl
      have e_w8_3 := BlockIs.of hk_w8 3 _ rfl
      have HB8 := Lib.hid (bput HBX.out hg_w8 HS.out (Nat.le_refl _))
      have hty8 : ∀ q, some gc = some q → Typed W q 32 := fun q hq => by injection hq with hq; rw [← hq]; exact ⟨_, hk8⟩
      have HK8 : Hid (KeptRow w8 w.heap.size (.slice va (glanceOf c r).events.length vc) (glanceOf c r).events) := Lib.hid (own_apart (own_lower hev' hb2s) hg_w8 hty8 (by decide))
      clear hk_w8 hg_w8 hk8 hty8 hev' hb2s
      go_wp2_with fail
      rw [← hw_w8]
      clear hw_w8
      refine bodyPost_ret (v := .tuple #[.agg #[.int .i64 (glanceOf c r).tick, .int .i64 (glanceOf c r).owner, .int .i64 (glanceOf c r).mode, .slice va (glanceOf c r).events.length vc], .int .i64 0]) (by simp [results, Try.results7, go_sem, e_w8_0, e_w8_1, e_w8_2, e_w8_3]) rfl ⟨_, rfl, ?_, HB8.out⟩
      rw [SPEC.out]
      exact ⟨_, rfl, _, rfl, HK8.out⟩
  · have SPEC := Lib.hid (show glanceSpec c r = none by unfold glanceSpec; rw [if_pos (Or.inl hck)])
    have hck' : (checkCfg c != 0) = true := by simpa using hck
    clear hck
    obtain ⟨W, rfl⟩ : ∃ W : World, W = w1 := ⟨_, rfl⟩
    obtain ⟨w8, hw_w8⟩ : ∃ w8, w8 = put4 W gc (.int .i64 0) (.int .i64 0) (.int .i64 0) (.slice none 0 0) := ⟨_, rfl⟩
    have hk_w8 := put4_at hk8 (.int .i64 0) (.int .i64 0) (.int .i64 0) (.slice none 0 0)
    have hg_w8 := put4_grown W gc (.int .i64 0) (.int .i64 0) (.int .i64 0) (.slice none 0 0)
    rw [← hw_w8] at hk_w8 hg_w8
    unfold put4 at hw_w8
    have o_w8_0 := BlockIs.of hk8 0 _ rfl
    have o_w8_1 := BlockIs.of hk8 1 _ rfl
    have o_w8_2 := BlockIs.of hk8 2 _ rfl
    have o_w8_3 := BlockIs.of hk8 3 _ rfl
    have f_w8 := thaw hk8
    have e_w8_0 := BlockIs.of hk_w8 0 _ rfl
    have e_w8_1 := BlockIs.of hk_w8 1 _ rfl
    have e_w8_2 := BlockIs.of hk_w8 2 _ rfl
    have e_w8_3 := BlockIs.of hk_w8 3 _ rfl
    have HB8 := Lib.hid (bput HBX.out hg_w8 HS.out (Nat.le_refl _))
    clear hk_w8 hg_w8 hk8
    go_wp2_with fail
    rw [← hw_w8]
    clear hw_w8
    refine bodyPost_ret (v := .tuple #[glance0, .int .i64 2300]) (by simp [results, Try.results7, go_sem, e_w8_0, e_w8_1, e_w8_2, e_w8_3]) rfl ⟨_, rfl, ?_, HB8.out⟩
    rw [SPEC.out]
    exact rfl
end Go.Proofs.Ytjhhncahlijohaa
