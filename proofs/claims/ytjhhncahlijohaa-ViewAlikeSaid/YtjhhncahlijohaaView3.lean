/- view.glance, Glance, High. -/
import Derived.Test.YtjhhncahlijohaaView2
set_option linter.unusedVariables false
set_option linter.unusedSimpArgs false
namespace Go.Proofs.Ytjhhncahlijohaa
open Go.RowKit

structure Glance where
  tick : Int
  owner : Int
  mode : Int
  events : List Event
deriving DecidableEq
def glanceOf (c : Config) (r : Row) : Glance := ⟨r.tick, if isPart c.parts r.owner 1 then r.owner else -1, r.mode, r.events.filter (keepB c)⟩
def rowBad (c : Config) (r : Row) : Prop := r.owner < -1 ∨ (c.parts.length : Int) ≤ r.owner
/-- A glance's value, its events a row of the call's own. -/
def GlanceO (W : World) (B : Nat) (v : Value) (x : Glance) : Prop := ∃ ev, v = .agg #[.int .i64 x.tick, .int .i64 x.owner, .int .i64 x.mode, ev] ∧ KeptRow W B ev x.events
theorem CfgP.drewN {w : World} {g : Nat} {c : Config} (h : CfgP w g c) (n : Nat) : CfgP (w.drewN n) g c := h.ext (Ext.drewN w n)
set_option maxRecDepth 100000 in
set_option maxHeartbeats 1000000 in
theorem glance_bad (g b o : Nat) (c : Config) (r : Row) (w : World) (hc : CfgP w g c) (hr : RowAt w b o r) (h : rowBad c r) :
    Calls Try.prog 15 #[.pointer (some ⟨g, 0, none⟩), .pointer (some ⟨b, o, none⟩)] w fun e w' => e = .returned (.tuple #[.agg #[.int .i64 0, .int .i64 0, .int .i64 0, .slice none 0 0], .int .i64 2300]) ∧ Below w.heap.size w w' := by
  obtain ⟨wz, hwz⟩ : ∃ wz, wz = (w.alloc (.cells #[.pointer (some ⟨g, 0, none⟩)] 65)).alloc (.cells #[.int .i64 0, .int .i64 0, .int .i64 0, .slice none 0 0] 32) := ⟨_, rfl⟩
  obtain ⟨bx, hbx⟩ : ∃ bx, bx = w.heap.size := ⟨_, rfl⟩
  have hb1 : Below w.heap.size w wz := by rw [hwz]; exact bthen (balloc _ _) (balloc _ _)
  have q0 : wz.cell? ⟨bx, 0, none⟩ = some (.pointer (some ⟨g, 0, none⟩)) := by rw [hwz, hbx]; exact Ext.alloc _ _ _ _ (box_at 0 rfl)
  have q1 : wz.heap[bx + 1]? = some (.cells #[.int .i64 0, .int .i64 0, .int .i64 0, .slice none 0 0] 32 (0, 0)) := by rw [hwz, hbx]; have h := blk_new (w.alloc (.cells #[.pointer (some ⟨g, 0, none⟩)] 65)) (.cells #[.int .i64 0, .int .i64 0, .int .i64 0, .slice none 0 0] 32); rwa [show (w.alloc (.cells #[.pointer (some ⟨g, 0, none⟩)] 65)).heap.size = w.heap.size + 1 by simp] at h
  obtain ⟨pv, wv, ov, h0, h1, h2, h3, h4, h5⟩ := hc.ext (Ext.below hb1)
  obtain ⟨a, cap, rfl, hp1, hp2, hp3, hp4⟩ := h5.parts
  obtain ⟨y0, y1, y2, y3, ev, y4, hev⟩ := hr.ext (Ext.below hb1)
  unfold IntAt at y0 y1 y3
  have HB1 := Lib.hid hb1
  have u0 := BlockIs.of q1 0 _ rfl
  have u1 := BlockIs.of q1 1 _ rfl
  have u2 := BlockIs.of q1 2 _ rfl
  have u3 := BlockIs.of q1 3 _ rfl
  have f0 := thaw q1
  have HQ1 := Lib.hid q1
  have HBX := Lib.hid hbx
  clear h0 h1 h3 h4 h5 hp4 hc hr hb1 q1
  unfold rowBad at h
  by_cases e : r.owner < -1
  · have e1 : decide (r.owner < -1) = true := by simpa using e
    clear h
    go_enter Try.func15, Try.ntmps15
    go_wp2_with fail
    rw [← hwz, ← hbx]
    clear hwz hbx
    go_quiet (fail)
    obtain ⟨wq, hq_wq, hh_wq, hb_wq⟩ : ∃ wq : World, wq = wz.drewN nq ∧ wq.heap = wz.heap ∧ Below wz.heap.size wz wq := ⟨_, rfl, rfl, below_drewN (Below.refl _ _) _⟩
    rw [← hq_wq]
    have HQ_wq := Lib.hid (And.intro hh_wq hb_wq)
    clear hq_wq hh_wq hb_wq
    have q2 := HQ1.out
    rw [← HQ_wq.out.1] at q2
    have hp := put4_at q2 (.int .i64 0) (.int .i64 0) (.int .i64 0) (.slice none 0 0)
    have hg := put4_grown wq (bx + 1) (.int .i64 0) (.int .i64 0) (.int .i64 0) (.slice none 0 0)
    unfold put4 at hp hg
    replace u0 := BlockIs.of q2 0 _ rfl
    replace u1 := BlockIs.of q2 1 _ rfl
    replace u2 := BlockIs.of q2 2 _ rfl
    replace u3 := BlockIs.of q2 3 _ rfl
    replace f0 := thaw q2
    go_wp2_with fail
    obtain ⟨W2, hW2⟩ : ∃ W2, W2 = (((wq.setCell ⟨bx + 1, 0, none⟩ (.int .i64 0)).setCell ⟨bx + 1, 1, none⟩ (.int .i64 0)).setCell ⟨bx + 1, 2, none⟩ (.int .i64 0)).setCell ⟨bx + 1, 3, none⟩ (.slice none 0 0) := ⟨_, rfl⟩
    rw [← hW2] at hp hg ⊢
    have v0 := BlockIs.of hp 0 _ rfl
    have v1 := BlockIs.of hp 1 _ rfl
    have v2 := BlockIs.of hp 2 _ rfl
    have v3 := BlockIs.of hp 3 _ rfl
    have HB2 := Lib.hid (bput (bthen HB1.out HQ_wq.out.2) hg (by have := HBX.out; omega) (Nat.le_refl _))
    clear hW2 hp hg
    refine bodyPost_ret (v := .tuple #[.agg #[.int .i64 0, .int .i64 0, .int .i64 0, .slice none 0 0], .int .i64 2300]) (by simp [results, Try.results15, go_sem, v0, v1, v2, v3]) rfl ⟨rfl, HB2.out⟩
  · have e1 : decide (r.owner < -1) = false := by simpa using e
    have e2 : decide ((c.parts.length : Int) ≤ r.owner) = true := by simp; omega
    clear h e
    go_enter Try.func15, Try.ntmps15
    go_wp2_with fail
    rw [← hwz, ← hbx]
    clear hwz hbx
    go_quiet (fail)
    obtain ⟨wq, hq_wq, hh_wq, hb_wq⟩ : ∃ wq : World, wq = wz.drewN nq ∧ wq.heap = wz.heap ∧ Below wz.heap.size wz wq := ⟨_, rfl, rfl, below_drewN (Below.refl _ _) _⟩
    rw [← hq_wq]
    have HQ_wq := Lib.hid (And.intro hh_wq hb_wq)
    clear hq_wq hh_wq hb_wq
    have q2 := HQ1.out
    rw [← HQ_wq.out.1] at q2
    have hp := put4_at q2 (.int .i64 0) (.int .i64 0) (.int .i64 0) (.slice none 0 0)
    have hg := put4_grown wq (bx + 1) (.int .i64 0) (.int .i64 0) (.int .i64 0) (.slice none 0 0)
    unfold put4 at hp hg
    replace u0 := BlockIs.of q2 0 _ rfl
    replace u1 := BlockIs.of q2 1 _ rfl
    replace u2 := BlockIs.of q2 2 _ rfl
    replace u3 := BlockIs.of q2 3 _ rfl
    replace f0 := thaw q2
    go_wp2_with fail
    obtain ⟨W2, hW2⟩ : ∃ W2, W2 = (((wq.setCell ⟨bx + 1, 0, none⟩ (.int .i64 0)).setCell ⟨bx + 1, 1, none⟩ (.int .i64 0)).setCell ⟨bx + 1, 2, none⟩ (.int .i64 0)).setCell ⟨bx + 1, 3, none⟩ (.slice none 0 0) := ⟨_, rfl⟩
    rw [← hW2] at hp hg ⊢
    have v0 := BlockIs.of hp 0 _ rfl
    have v1 := BlockIs.of hp 1 _ rfl
    have v2 := BlockIs.of hp 2 _ rfl
    have v3 := BlockIs.of hp 3 _ rfl
    have HB2 := Lib.hid (bput (bthen HB1.out HQ_wq.out.2) hg (by have := HBX.out; omega) (Nat.le_refl _))
    clear hW2 hp hg
    refine bodyPost_ret (v := .tuple #[.agg #[.int .i64 0, .int .i64 0, .int .i64 0, .slice none 0 0], .int .i64 2300]) (by simp [results, Try.results15, go_sem, v0, v1, v2, v3]) rfl ⟨rfl, HB2.out⟩
set_option maxRecDepth 100000 in
set_option maxHeartbeats 1000000 in
theorem glance_ok (g b o : Nat) (c : Config) (r : Row) (w : World) (hc : CfgP w g c) (hr : RowAt w b o r) (h : ¬ rowBad c r) :
    Calls Try.prog 15 #[.pointer (some ⟨g, 0, none⟩), .pointer (some ⟨b, o, none⟩)] w fun e w' => ∃ v, e = .returned (.tuple #[v, .int .i64 0]) ∧ GlanceO w' w.heap.size v (glanceOf c r) ∧ Below w.heap.size w w' := by
  have HBB0 := Lib.hid (show b < w.heap.size from cell_lt hr.1)
  have HC0 := Lib.hid hc
  obtain ⟨wz, hwz⟩ : ∃ wz, wz = (w.alloc (.cells #[.pointer (some ⟨g, 0, none⟩)] 65)).alloc (.cells #[.int .i64 0, .int .i64 0, .int .i64 0, .slice none 0 0] 32) := ⟨_, rfl⟩
  obtain ⟨bx, hbx⟩ : ∃ bx, bx = w.heap.size := ⟨_, rfl⟩
  have hb1 : Below w.heap.size w wz := by rw [hwz]; exact bthen (balloc _ _) (balloc _ _)
  have q0 : wz.cell? ⟨bx, 0, none⟩ = some (.pointer (some ⟨g, 0, none⟩)) := by rw [hwz, hbx]; exact Ext.alloc _ _ _ _ (box_at 0 rfl)
  have q1 : wz.heap[bx + 1]? = some (.cells #[.int .i64 0, .int .i64 0, .int .i64 0, .slice none 0 0] 32 (0, 0)) := by rw [hwz, hbx]; have h := blk_new (w.alloc (.cells #[.pointer (some ⟨g, 0, none⟩)] 65)) (.cells #[.int .i64 0, .int .i64 0, .int .i64 0, .slice none 0 0] 32); rwa [show (w.alloc (.cells #[.pointer (some ⟨g, 0, none⟩)] 65)).heap.size = w.heap.size + 1 by simp] at h
  obtain ⟨pv, wv, ov, h0, h1, h2, h3, h4, h5⟩ := hc.ext (Ext.below hb1)
  obtain ⟨a, cap, rfl, hp1, hp2, hp3, hp4⟩ := h5.parts
  obtain ⟨y0, y1, y2, y3, ev, y4, hev⟩ := hr.ext (Ext.below hb1)
  have HEV := Lib.hid hev
  unfold IntAt at y0 y1 y3
  have HB1 := Lib.hid hb1
  have u0 := BlockIs.of q1 0 _ rfl
  have u1 := BlockIs.of q1 1 _ rfl
  have u2 := BlockIs.of q1 2 _ rfl
  have u3 := BlockIs.of q1 3 _ rfl
  have f0 := thaw q1
  have HQ1 := Lib.hid q1
  have HBX := Lib.hid hbx
  clear h0 h1 h3 h4 h5 hp4 hc hr hb1 q1 hev u0 u1 u2 u3 f0
  have HY0 := Lib.hid (And.intro q0 y4)
  unfold rowBad at h
  have e1 : decide (r.owner < -1) = false := by simp; omega
  have e2 : decide ((c.parts.length : Int) ≤ r.owner) = false := by simp; omega
  clear h
  go_enter Try.func15, Try.ntmps15
  go_wp2_with fail
  rw [← hwz, ← hbx]
  clear hwz hbx
  go_quiet (fail)
  obtain ⟨wq, hq_wq, hh_wq, hb_wq⟩ : ∃ wq : World, wq = wz.drewN nq ∧ wq.heap = wz.heap ∧ Below wz.heap.size wz wq := ⟨_, rfl, rfl, below_drewN (Below.refl _ _) _⟩
  rw [← hq_wq]
  have HQ_wq := Lib.hid (And.intro hh_wq hb_wq)
  clear hq_wq hh_wq hb_wq
  replace q0 := (cell_of_heap HQ_wq.out.1 _).trans q0
  replace h2 := (cell_of_heap HQ_wq.out.1 _).trans h2
  replace y0 := (cell_of_heap HQ_wq.out.1 _).trans y0
  replace y1 := (cell_of_heap HQ_wq.out.1 _).trans y1
  replace y2 := (cell_of_heap HQ_wq.out.1 _).trans y2
  replace y3 := (cell_of_heap HQ_wq.out.1 _).trans y3
  replace y4 := (cell_of_heap HQ_wq.out.1 _).trans y4
  go_wp2_with fail
  go_region_held3 (fun w' => w'.cell? ⟨b, o, none⟩ = some (.int .i64 r.tick) ∧ w'.cell? ⟨b, o + 3, none⟩ = some (.int .i64 r.mode)) (first | exact ⟨y0, y3⟩ | exact ⟨Ext.alloc _ _ _ _ y0, Ext.alloc _ _ _ _ y3⟩) (fail)
  go_wp2_with fail
  obtain ⟨w3, hw3⟩ : ∃ w3, w3 = (wq.alloc (.cells #[.int .i64 r.tick, .int .i64 (-1), .int .i64 r.mode, .slice none 0 0] 32)).drew := ⟨_, rfl⟩
  obtain ⟨bg, hbg⟩ : ∃ bg, bg = wq.heap.size := ⟨_, rfl⟩
  rw [← hw3, ← hbg]
  have hb3 : Below wq.heap.size wq w3 := by rw [hw3]; exact below_drew (balloc _ _)
  have g3 : w3.heap[bg]? = some (.cells #[.int .i64 r.tick, .int .i64 (-1), .int .i64 r.mode, .slice none 0 0] 32 (0, 0)) := by rw [hw3, hbg]; exact blk_new _ _
  have hq2 := HQ1.out
  rw [← HQ_wq.out.1] at hq2
  have hq3 := keep_at hq2 hb3
  have HE3 := Lib.hid (Ext.below hb3)
  have HB3 := Lib.hid (bthen (bthen HB1.out HQ_wq.out.2) hb3)
  have HC3 := Lib.hid (HC0.out.ext (Ext.below HB3.out))
  have HEV3 := Lib.hid (HEV.out.ext (Ext.below (bthen HQ_wq.out.2 hb3)))
  have HG3 := Lib.hid (And.intro g3 (And.intro hq3 hbg))
  replace q0 := HE3.out _ _ q0
  replace h2 := HE3.out _ _ h2
  replace y0 := HE3.out _ _ y0
  replace y1 := HE3.out _ _ y1
  replace y2 := HE3.out _ _ y2
  replace y3 := HE3.out _ _ y3
  replace y4 := HE3.out _ _ y4
  have u0 := BlockIs.of hq3 0 _ rfl
  have HBW3 := Lib.hid (show Below wq.heap.size wq w3 from hb3)
  have HBB := Lib.hid (show b < w.heap.size from HBB0.out)
  have HY1 := Lib.hid y1
  clear hw3 hbg hb3 g3 hq2 hq3 u0
  have hbb : b < w.heap.size := HBB.out
  obtain ⟨pp, hpp⟩ : ∃ pp, isPart c.parts r.owner 1 = pp := ⟨_, rfl⟩
  have HPP := Lib.hid hpp
  cases pp
  · have hp := hpp
    have HF := Lib.hid (show ∀ W, CfgP W g c → Calls Try.prog 33 #[.pointer (some ⟨g, 0, none⟩), .int .i64 r.owner] W (fun e w' => e = .returned (.bool false) ∧ w' = W) from fun W hW => by have := high_any g c r.owner W hW; rwa [hp] at this)
    have HOW := Lib.hid (show glanceOf c r = ⟨r.tick, -1, r.mode, r.events.filter (keepB c)⟩ by unfold glanceOf; rw [hp]; rfl)
    clear hp hpp HPP
    go_quiet ((go_at_call 33; exact Calls.quiet_of_same (HF.out _ (CfgP.drewN HC3.out _))))
    obtain ⟨w4, hq_w4, hh_w4, hb_w4⟩ : ∃ w4 : World, w4 = w3.drewN nq ∧ w4.heap = w3.heap ∧ Below w3.heap.size w3 w4 := ⟨_, rfl, rfl, below_drewN (Below.refl _ _) _⟩
    rw [← hq_w4]
    have HQ_w4 := Lib.hid (And.intro hh_w4 hb_w4)
    clear hq_w4 hh_w4 hb_w4
    replace q0 := (cell_of_heap HQ_w4.out.1 _).trans q0
    replace h2 := (cell_of_heap HQ_w4.out.1 _).trans h2
    replace y0 := (cell_of_heap HQ_w4.out.1 _).trans y0
    replace y1 := (cell_of_heap HQ_w4.out.1 _).trans y1
    replace y2 := (cell_of_heap HQ_w4.out.1 _).trans y2
    replace y3 := (cell_of_heap HQ_w4.out.1 _).trans y3
    replace y4 := (cell_of_heap HQ_w4.out.1 _).trans y4
    clear HF
    obtain ⟨w5, hw5⟩ : ∃ w5, w5 = w4 := ⟨_, rfl⟩
    have g5 := HG3.out.1
    rw [← HQ_w4.out.1, ← hw5] at g5
    have hg5 : w4.grownBy w5 (some bg) := by rw [hw5]; exact below_grown (Below.refl _ _) _
    rw [← hw5]
    have hb5 : Below wz.heap.size wz w5 := bput (bthen HQ_wq.out.2 (bthen HBW3.out HQ_w4.out.2)) hg5 (by have := HG3.out.2.2; have := HQ_wq.out.2.size; omega) (Nat.le_refl _)
    have hE5 := Ext.below hb5
    replace q0 := hE5 _ _ HY0.out.1
    replace y4 := hE5 _ _ HY0.out.2
    have hne : bx + 1 ≠ bg := by have h1 := lt_of_block HG3.out.2.1; have h2 := HG3.out.2.2; have h3 := lt_of_block HQ1.out; have h4 := HQ_wq.out.2.size; omega
    have gz5 : w5.heap[bx + 1]? = some (.cells #[.int .i64 0, .int .i64 0, .int .i64 0, .slice none 0 0] 32 (0, 0)) := by
      have h := HG3.out.2.1
      rw [← HQ_w4.out.1] at h
      rw [hg5.block _ (lt_of_block h) (by intro e; injection e with e; exact hne e)]
      exact h
    have HB5 := Lib.hid (bthen HB1.out hb5)
    have HC5 := Lib.hid (HC0.out.ext (Ext.below HB5.out))
    have HEV5 := Lib.hid (HEV.out.ext hE5)
    have HG5 := Lib.hid (And.intro g5 gz5)
    have HK5 := Lib.hid q0
    have HNE := Lib.hid hne
    clear g5 gz5 hg5 hb5 hE5 hne h2 y0 y1 y2 y3
    clear hw5
    go_wp2_with fail
    refine (kept_any _ _ r.events (keepB c) _ HEV5.out (fun k hk W hW => glance1_any g bx c _ W (HC5.out.ext (Ext.below hW)) (Ext.below hW _ _ HK5.out))).mono ?_
    rintro e w6 ⟨v', rfl, hown, hb6⟩
    obtain ⟨va, vc, rfl⟩ := own_shape hown
    have g6 := keep_at HG5.out.1 hb6
    have gz6 := keep_at HG5.out.2 hb6
    obtain ⟨w7, hw7⟩ : ∃ w7, w7 = w6.setCell ⟨bg, 3, none⟩ (.slice va (r.events.filter (keepB c)).length vc) := ⟨_, rfl⟩
    have g7 := blk_set g6 3 (.slice va (r.events.filter (keepB c)).length vc)
    have hg7 := set_grown w6 bg 3 (.slice va (r.events.filter (keepB c)).length vc)
    rw [← hw7] at g7 hg7
    have gz7 : w7.heap[bx + 1]? = some (.cells #[.int .i64 0, .int .i64 0, .int .i64 0, .slice none 0 0] 32 (0, 0)) := by
      rw [hg7.block _ (lt_of_block gz6) (by intro e; injection e with e; exact HNE.out e)]
      exact gz6
    have k6 := BlockIs.of g6 3 _ rfl
    have kf6 := thaw g6 3
    have t0 := BlockIs.of g7 0 _ rfl
    have t1 := BlockIs.of g7 1 _ rfl
    have t2 := BlockIs.of g7 2 _ rfl
    have t3 := BlockIs.of g7 3 _ rfl
    have u0 := BlockIs.of gz7 0 _ rfl
    have u1 := BlockIs.of gz7 1 _ rfl
    have u2 := BlockIs.of gz7 2 _ rfl
    have u3 := BlockIs.of gz7 3 _ rfl
    have f0 := thaw gz7
    obtain ⟨w8, hw8⟩ : ∃ w8, w8 = put4 w7 (bx + 1) (.int .i64 r.tick) (.int .i64 (-1)) (.int .i64 r.mode) (.slice va (r.events.filter (keepB c)).length vc) := ⟨_, rfl⟩
    have g8 := put4_at gz7 (.int .i64 r.tick) (.int .i64 (-1)) (.int .i64 r.mode) (.slice va (r.events.filter (keepB c)).length vc)
    have hg8 := put4_grown w7 (bx + 1) (.int .i64 r.tick) (.int .i64 (-1)) (.int .i64 r.mode) (.slice va (r.events.filter (keepB c)).length vc)
    rw [← hw8] at g8 hg8
    unfold put4 at hw8
    have hty7 : ∀ q, some bg = some q → Typed w6 q 32 := fun q hq => by injection hq with hq; rw [← hq]; exact ⟨_, g6⟩
    have hty8 : ∀ q, some (bx + 1) = some q → Typed w7 q 32 := fun q hq => by injection hq with hq; rw [← hq]; exact ⟨_, gz7⟩
    have hk8 : KeptRow w8 w.heap.size (.slice va (r.events.filter (keepB c)).length vc) (r.events.filter (keepB c)) := own_apart (own_apart (own_lower hown HB5.out.size) hg7 hty7 (by decide)) hg8 hty8 (by decide)
    have hb8 : Below w.heap.size w w8 := bput (bput (bthen HB5.out hb6) hg7 (by have h1 := HG3.out.2.2; have h2 := HQ_wq.out.2.size; have h3 := HB1.out.size; omega) (Nat.le_refl _)) hg8 (by have := HBX.out; omega) (Nat.le_refl _)
    have HB8 := Lib.hid hb8
    have HK8 := Lib.hid hk8
    have v0 := BlockIs.of g8 0 _ rfl
    have v1 := BlockIs.of g8 1 _ rfl
    have v2 := BlockIs.of g8 2 _ rfl
    have v3 := BlockIs.of g8 3 _ rfl
    clear hown hb6 g6 gz6 g7 hg7 gz7 g8 hg8 hty7 hty8 hk8 hb8 q0 y4
    go_wp2_with (first | (rw [← hw7]; clear hw7) | fail)
    rw [← hw8]
    clear hw8 u0 u1 u2 u3 f0 t0 t1 t2 t3 k6 kf6
    refine bodyPost_ret (v := .tuple #[.agg #[.int .i64 r.tick, .int .i64 (-1), .int .i64 r.mode, .slice va (r.events.filter (keepB c)).length vc], .int .i64 0]) (by simp [results, Try.results15, go_sem, v0, v1, v2, v3]) rfl ⟨_, rfl, ?_, HB8.out⟩
    rw [HOW.out]
    exact ⟨_, rfl, HK8.out⟩
  · have hp := hpp
    have HF := Lib.hid (show ∀ W, CfgP W g c → Calls Try.prog 33 #[.pointer (some ⟨g, 0, none⟩), .int .i64 r.owner] W (fun e w' => e = .returned (.bool true) ∧ w' = W) from fun W hW => by have := high_any g c r.owner W hW; rwa [hp] at this)
    have HOW := Lib.hid (show glanceOf c r = ⟨r.tick, r.owner, r.mode, r.events.filter (keepB c)⟩ by unfold glanceOf; rw [hp]; rfl)
    clear hp hpp HPP
    go_quiet ((go_at_call 33; exact Calls.quiet_of_same (HF.out _ (CfgP.drewN HC3.out _))))
    obtain ⟨w4, hq_w4, hh_w4, hb_w4⟩ : ∃ w4 : World, w4 = w3.drewN nq ∧ w4.heap = w3.heap ∧ Below w3.heap.size w3 w4 := ⟨_, rfl, rfl, below_drewN (Below.refl _ _) _⟩
    rw [← hq_w4]
    have HQ_w4 := Lib.hid (And.intro hh_w4 hb_w4)
    clear hq_w4 hh_w4 hb_w4
    replace q0 := (cell_of_heap HQ_w4.out.1 _).trans q0
    replace h2 := (cell_of_heap HQ_w4.out.1 _).trans h2
    replace y0 := (cell_of_heap HQ_w4.out.1 _).trans y0
    replace y1 := (cell_of_heap HQ_w4.out.1 _).trans y1
    replace y2 := (cell_of_heap HQ_w4.out.1 _).trans y2
    replace y3 := (cell_of_heap HQ_w4.out.1 _).trans y3
    replace y4 := (cell_of_heap HQ_w4.out.1 _).trans y4
    clear HF
    obtain ⟨w5, hw5⟩ : ∃ w5, w5 = w4.setCell ⟨bg, 1, none⟩ (.int .i64 r.owner) := ⟨_, rfl⟩
    have g4 := HG3.out.1
    rw [← HQ_w4.out.1] at g4
    have k1 := BlockIs.of g4 1 _ rfl
    have kf := thaw g4 1
    have g5 := blk_set g4 1 (.int .i64 r.owner)
    have hg5 := set_grown w4 bg 1 (.int .i64 r.owner)
    rw [← hw5] at g5 hg5
    clear g4
    have hb5 : Below wz.heap.size wz w5 := bput (bthen HQ_wq.out.2 (bthen HBW3.out HQ_w4.out.2)) hg5 (by have := HG3.out.2.2; have := HQ_wq.out.2.size; omega) (Nat.le_refl _)
    have hE5 := Ext.below hb5
    replace q0 := hE5 _ _ HY0.out.1
    replace y4 := hE5 _ _ HY0.out.2
    have hne : bx + 1 ≠ bg := by have h1 := lt_of_block HG3.out.2.1; have h2 := HG3.out.2.2; have h3 := lt_of_block HQ1.out; have h4 := HQ_wq.out.2.size; omega
    have gz5 : w5.heap[bx + 1]? = some (.cells #[.int .i64 0, .int .i64 0, .int .i64 0, .slice none 0 0] 32 (0, 0)) := by
      have h := HG3.out.2.1
      rw [← HQ_w4.out.1] at h
      rw [hg5.block _ (lt_of_block h) (by intro e; injection e with e; exact hne e)]
      exact h
    have HB5 := Lib.hid (bthen HB1.out hb5)
    have HC5 := Lib.hid (HC0.out.ext (Ext.below HB5.out))
    have HEV5 := Lib.hid (HEV.out.ext hE5)
    have HG5 := Lib.hid (And.intro g5 gz5)
    have HK5 := Lib.hid q0
    have HNE := Lib.hid hne
    clear g5 gz5 hg5 hb5 hE5 hne h2 y0 y2 y3
    have y1 := (cell_of_heap HQ_w4.out.1 _).trans HY1.out
    go_wp2_with (first | (rw [← hw5]; clear hw5) | fail)
    refine (kept_any _ _ r.events (keepB c) _ HEV5.out (fun k hk W hW => glance1_any g bx c _ W (HC5.out.ext (Ext.below hW)) (Ext.below hW _ _ HK5.out))).mono ?_
    rintro e w6 ⟨v', rfl, hown, hb6⟩
    obtain ⟨va, vc, rfl⟩ := own_shape hown
    have g6 := keep_at HG5.out.1 hb6
    have gz6 := keep_at HG5.out.2 hb6
    obtain ⟨w7, hw7⟩ : ∃ w7, w7 = w6.setCell ⟨bg, 3, none⟩ (.slice va (r.events.filter (keepB c)).length vc) := ⟨_, rfl⟩
    have g7 := blk_set g6 3 (.slice va (r.events.filter (keepB c)).length vc)
    have hg7 := set_grown w6 bg 3 (.slice va (r.events.filter (keepB c)).length vc)
    rw [← hw7] at g7 hg7
    have gz7 : w7.heap[bx + 1]? = some (.cells #[.int .i64 0, .int .i64 0, .int .i64 0, .slice none 0 0] 32 (0, 0)) := by
      rw [hg7.block _ (lt_of_block gz6) (by intro e; injection e with e; exact HNE.out e)]
      exact gz6
    have k6 := BlockIs.of g6 3 _ rfl
    have kf6 := thaw g6 3
    have t0 := BlockIs.of g7 0 _ rfl
    have t1 := BlockIs.of g7 1 _ rfl
    have t2 := BlockIs.of g7 2 _ rfl
    have t3 := BlockIs.of g7 3 _ rfl
    have u0 := BlockIs.of gz7 0 _ rfl
    have u1 := BlockIs.of gz7 1 _ rfl
    have u2 := BlockIs.of gz7 2 _ rfl
    have u3 := BlockIs.of gz7 3 _ rfl
    have f0 := thaw gz7
    obtain ⟨w8, hw8⟩ : ∃ w8, w8 = put4 w7 (bx + 1) (.int .i64 r.tick) (.int .i64 r.owner) (.int .i64 r.mode) (.slice va (r.events.filter (keepB c)).length vc) := ⟨_, rfl⟩
    have g8 := put4_at gz7 (.int .i64 r.tick) (.int .i64 r.owner) (.int .i64 r.mode) (.slice va (r.events.filter (keepB c)).length vc)
    have hg8 := put4_grown w7 (bx + 1) (.int .i64 r.tick) (.int .i64 r.owner) (.int .i64 r.mode) (.slice va (r.events.filter (keepB c)).length vc)
    rw [← hw8] at g8 hg8
    unfold put4 at hw8
    have hty7 : ∀ q, some bg = some q → Typed w6 q 32 := fun q hq => by injection hq with hq; rw [← hq]; exact ⟨_, g6⟩
    have hty8 : ∀ q, some (bx + 1) = some q → Typed w7 q 32 := fun q hq => by injection hq with hq; rw [← hq]; exact ⟨_, gz7⟩
    have hk8 : KeptRow w8 w.heap.size (.slice va (r.events.filter (keepB c)).length vc) (r.events.filter (keepB c)) := own_apart (own_apart (own_lower hown HB5.out.size) hg7 hty7 (by decide)) hg8 hty8 (by decide)
    have hb8 : Below w.heap.size w w8 := bput (bput (bthen HB5.out hb6) hg7 (by have h1 := HG3.out.2.2; have h2 := HQ_wq.out.2.size; have h3 := HB1.out.size; omega) (Nat.le_refl _)) hg8 (by have := HBX.out; omega) (Nat.le_refl _)
    have HB8 := Lib.hid hb8
    have HK8 := Lib.hid hk8
    have v0 := BlockIs.of g8 0 _ rfl
    have v1 := BlockIs.of g8 1 _ rfl
    have v2 := BlockIs.of g8 2 _ rfl
    have v3 := BlockIs.of g8 3 _ rfl
    clear hown hb6 g6 gz6 g7 hg7 gz7 g8 hg8 hty7 hty8 hk8 hb8 q0 y4
    go_wp2_with (first | (rw [← hw7]; clear hw7) | fail)
    rw [← hw8]
    clear hw8 u0 u1 u2 u3 f0 t0 t1 t2 t3 k6 kf6
    refine bodyPost_ret (v := .tuple #[.agg #[.int .i64 r.tick, .int .i64 r.owner, .int .i64 r.mode, .slice va (r.events.filter (keepB c)).length vc], .int .i64 0]) (by simp [results, Try.results15, go_sem, v0, v1, v2, v3]) rfl ⟨_, rfl, ?_, HB8.out⟩
    rw [HOW.out]
    exact ⟨_, rfl, HK8.out⟩
end Go.Proofs.Ytjhhncahlijohaa
