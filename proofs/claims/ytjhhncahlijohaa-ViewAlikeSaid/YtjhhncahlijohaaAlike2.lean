/- view.Alike: the walk. -/
import Derived.Test.YtjhhncahlijohaaAlike
import Derived.Test.YtjhhncahlijohaaRegI
set_option linter.unusedVariables false
set_option linter.unusedSimpArgs false
namespace Go.Proofs.Ytjhhncahlijohaa
open Go.RowKit

def alikeB (a b : Config) : Bool := decide (checkCfg a = 0 ∧ checkCfg b = 0) && decide (bareCfg a = bareCfg b)
theorem bare_eq (a b : Config) : decide (bareCfg a = bareCfg b) = ((a.frame == b.frame) && ((a.quiet == b.quiet) && (decide ((bareCfg a).parts = (bareCfg b).parts) && (decide (a.windows = b.windows) && decide (a.ports = b.ports))))) := by
  rw [Bool.eq_iff_iff]
  simp [bareCfg]
  intros
  exact decide_eq_true_iff.symm
/-- A bare configuration's value. -/
def BareVal (W : World) (B : Nat) (v : Value) (c : Config) : Prop := ∃ pv wv ov, v = .agg #[.int .i64 c.frame, .int .i64 c.quiet, pv, wv, ov] ∧ BareOf W B pv wv ov c
/-- .. in a block of its own. -/
def BareBox (W : World) (B g : Nat) (c : Config) : Prop := ∃ pv wv ov, W.heap[g]? = some (.cells #[.int .i64 c.frame, .int .i64 c.quiet, pv, wv, ov] 26 (0, 0)) ∧ BareOf W B pv wv ov c
def ZeroBox (W : World) (g : Nat) : Prop := W.heap[g]? = some (.cells #[.int .i64 0, .int .i64 0, .slice none 0 0, .slice none 0 0, .slice none 0 0] 26 (0, 0))
structure AlInv (w : World) (A B : Value) (a b : Config) (L : Nat → Bool) (vs : Nat → Value) (W : World) : Prop where
  below : Below w.heap.size w W
  i0 : L 0 = true → vs 0 = A
  i2 : L 2 = true → vs 2 = B
  i1 : L 1 = true → BareVal W w.heap.size (vs 1) a
  i3 : L 3 = true → BareVal W w.heap.size (vs 3) b
  i4 : L 4 = true → ∃ g, vs 4 = .pointer (some ⟨g, 0, none⟩) ∧ w.heap.size ≤ g ∧ (L 6 = false → ZeroBox W g) ∧ (L 6 = true → BareBox W w.heap.size g a) ∧ Typed W g 26
  i5 : L 5 = true → ∃ g, vs 5 = .pointer (some ⟨g, 0, none⟩) ∧ w.heap.size ≤ g ∧ (L 7 = false → ZeroBox W g) ∧ (L 7 = true → BareBox W w.heap.size g b) ∧ Typed W g 26
  ne : L 4 = true → L 5 = true → vs 4 ≠ vs 5
theorem BareVal.below {W W' : World} {B : Nat} {v : Value} {c : Config} (h : BareVal W B v c) (hb : Below W.heap.size W W') : BareVal W' B v c := by
  obtain ⟨pv, wv, ov, e, h⟩ := h
  exact ⟨pv, wv, ov, e, h.below hb⟩
theorem BareBox.below {W W' : World} {B g : Nat} {c : Config} (h : BareBox W B g c) (hb : Below W.heap.size W W') : BareBox W' B g c := by
  obtain ⟨pv, wv, ov, e, h⟩ := h
  exact ⟨pv, wv, ov, keep_at e hb, h.below hb⟩
theorem typed_below {W W' : World} {g : Nat} {t : TypeId} (h : Typed W g t) (hb : Below W.heap.size W W') : Typed W' g t := by
  obtain ⟨c, h⟩ := h
  exact ⟨c, keep_at h hb⟩
/-- What runs without writing to what was there keeps it all. -/
theorem AlInv.keep {w : World} {A B : Value} {a b : Config} {L : Nat → Bool} {vs : Nat → Value} {W W' : World} (h : AlInv w A B a b L vs W) (hb : Below W.heap.size W W') : AlInv w A B a b L vs W' where
  below := bthen h.below hb
  i0 := h.i0
  i2 := h.i2
  i1 e := (h.i1 e).below hb
  i3 e := (h.i3 e).below hb
  i4 e := by
    obtain ⟨g, h1, h2, h3, h4, h5⟩ := h.i4 e
    exact ⟨g, h1, h2, fun q => keep_at (h3 q) hb, fun q => (h4 q).below hb, typed_below h5 hb⟩
  i5 e := by
    obtain ⟨g, h1, h2, h3, h4, h5⟩ := h.i5 e
    exact ⟨g, h1, h2, fun q => keep_at (h3 q) hb, fun q => (h4 q).below hb, typed_below h5 hb⟩
  ne := h.ne
theorem BareVal.apart {W W' : World} {B : Nat} {v : Value} {c : Config} (h : BareVal W B v c) {r : Option Nat} (hg : W.grownBy W' r) (hr : ∀ g, r = some g → Typed W g 26) : BareVal W' B v c := by
  obtain ⟨pv, wv, ov, e, h⟩ := h
  exact ⟨pv, wv, ov, e, h.apart hg hr⟩
theorem AlInv.store6 {w : World} {A B : Value} {a b : Config} {L : Nat → Bool} {vs : Nat → Value} {W W' : World} {g : Nat} (h : AlInv w A B a b L vs W) (h4 : vs 4 = .pointer (some ⟨g, 0, none⟩)) (hl4 : L 4 = true) (hg : w.heap.size ≤ g) (hgr : W.grownBy W' (some g)) (hty : Typed W g 26) (hbox : BareBox W' w.heap.size g a) : AlInv w A B a b (updB L 6) (upd vs 6 undef) W' := by
  have hr : ∀ q, some g = some q → Typed W q 26 := fun q hq => by injection hq with hq; rw [← hq]; exact hty
  refine ⟨bput h.below hgr hg (Nat.le_refl _), h.i0, h.i2, fun e => (h.i1 e).apart hgr hr, fun e => (h.i3 e).apart hgr hr, fun _ => ?_, fun e => ?_, h.ne⟩
  · obtain ⟨pv, wv, ov, hk, -⟩ := id hbox
    exact ⟨g, h4, hg, fun q => by simp [updB] at q, fun _ => hbox, ⟨_, hk⟩⟩
  · obtain ⟨g5, h1, h2, h3, h5, c, hc⟩ := h.i5 e
    have hne : g5 ≠ g := by
      rintro rfl
      exact h.ne hl4 e (h4.trans h1.symm)
    have hkeep : ∀ o, W.heap[g5]? = some o → W'.heap[g5]? = some o := fun o ho => (hgr.block g5 (Array.getElem?_eq_some_iff.1 ho).1 (by intro e; injection e with e; exact hne e)).trans ho
    refine ⟨g5, h1, h2, fun q => hkeep _ (h3 q), fun q => ?_, ⟨_, hkeep _ hc⟩⟩
    obtain ⟨pv, wv, ov, hk, ho⟩ := h5 q
    exact ⟨pv, wv, ov, hkeep _ hk, ho.apart hgr hr⟩
theorem AlInv.store7 {w : World} {A B : Value} {a b : Config} {L : Nat → Bool} {vs : Nat → Value} {W W' : World} {g : Nat} (h : AlInv w A B a b L vs W) (h5 : vs 5 = .pointer (some ⟨g, 0, none⟩)) (hl5 : L 5 = true) (hg : w.heap.size ≤ g) (hgr : W.grownBy W' (some g)) (hty : Typed W g 26) (hbox : BareBox W' w.heap.size g b) : AlInv w A B a b (updB L 7) (upd vs 7 undef) W' := by
  have hr : ∀ q, some g = some q → Typed W q 26 := fun q hq => by injection hq with hq; rw [← hq]; exact hty
  refine ⟨bput h.below hgr hg (Nat.le_refl _), h.i0, h.i2, fun e => (h.i1 e).apart hgr hr, fun e => (h.i3 e).apart hgr hr, fun e => ?_, fun _ => ?_, h.ne⟩
  · obtain ⟨g4, h1, h2, h3, h4, c, hc⟩ := h.i4 e
    have hne : g4 ≠ g := by
      rintro rfl
      exact h.ne e hl5 (h1.trans h5.symm)
    have hkeep : ∀ o, W.heap[g4]? = some o → W'.heap[g4]? = some o := fun o ho => (hgr.block g4 (Array.getElem?_eq_some_iff.1 ho).1 (by intro e; injection e with e; exact hne e)).trans ho
    refine ⟨g4, h1, h2, fun q => hkeep _ (h3 q), fun q => ?_, ⟨_, hkeep _ hc⟩⟩
    obtain ⟨pv, wv, ov, hk, ho⟩ := h4 q
    exact ⟨pv, wv, ov, hkeep _ hk, ho.apart hgr hr⟩
  · obtain ⟨pv, wv, ov, hk, -⟩ := id hbox
    exact ⟨g, h5, hg, fun q => by simp [updB] at q, fun _ => hbox, ⟨_, hk⟩⟩
set_option maxRecDepth 100000 in
set_option maxHeartbeats 2000000 in
theorem alike_any (a b : Config) (va vb : Value) (w : World) (ha : CfgV w va a) (hb : CfgV w vb b) :
    Calls Try.prog 11 #[va, vb] w fun e w' => e = .returned (.bool (alikeB a b)) ∧ Below w.heap.size w w' := by
  obtain ⟨pa, wa', oa, rfl, hca⟩ := ha
  obtain ⟨pb, wb', ob, rfl, hcb⟩ := hb
  obtain ⟨a1, a2, a3, a4, a5, a6, rfl, rfl, rfl⟩ := hca.shape
  obtain ⟨b1, b2, b3, b4, b5, b6, rfl, rfl, rfl⟩ := hcb.shape
  have k1 := cfg_box w a _ _ _ 26 hca
  obtain ⟨wa, hw_wa⟩ : ∃ wa, wa = w.alloc (.cells #[.int .i64 a.frame, .int .i64 a.quiet, .slice a1 a.parts.length a2, .slice a3 a.windows.length a4, .slice a5 a.ports.length a6] 26) := ⟨_, rfl⟩
  obtain ⟨ga, hg_ga⟩ : ∃ ga, ga = w.heap.size := ⟨_, rfl⟩
  have hb_wa : Below w.heap.size w wa := by rw [hw_wa]; exact balloc _ _
  have hk_ga : wa.heap[ga]? = some (.cells #[.int .i64 a.frame, .int .i64 a.quiet, .slice a1 a.parts.length a2, .slice a3 a.windows.length a4, .slice a5 a.ports.length a6] 26 (0, 0)) := by rw [hw_wa, hg_ga]; exact blk_new _ _
  have hs_wa : wa.heap.size = w.heap.size + 1 := by rw [hw_wa]; simp
  have k2 := cfg_box wa b _ _ _ 26 (hcb.ext (Ext.below hb_wa))
  obtain ⟨wb, hw_wb⟩ : ∃ wb, wb = wa.alloc (.cells #[.int .i64 b.frame, .int .i64 b.quiet, .slice b1 b.parts.length b2, .slice b3 b.windows.length b4, .slice b5 b.ports.length b6] 26) := ⟨_, rfl⟩
  obtain ⟨gb, hg_gb⟩ : ∃ gb, gb = wa.heap.size := ⟨_, rfl⟩
  have hb_wb : Below wa.heap.size wa wb := by rw [hw_wb]; exact balloc _ _
  have hk_gb : wb.heap[gb]? = some (.cells #[.int .i64 b.frame, .int .i64 b.quiet, .slice b1 b.parts.length b2, .slice b3 b.windows.length b4, .slice b5 b.ports.length b6] 26 (0, 0)) := by rw [hw_wb, hg_gb]; exact blk_new _ _
  have hs_wb : wb.heap.size = wa.heap.size + 1 := by rw [hw_wb]; simp
  rw [← hw_wa, ← hg_ga] at k1
  rw [← hw_wb, ← hg_gb] at k2
  have HB := Lib.hid (bthen hb_wa hb_wb)
  have HA0 := Lib.hid (k1.ext (Ext.below hb_wb))
  have HD0 := Lib.hid k2
  clear k1 k2 hk_ga hk_gb hb_wa hb_wb hca hcb
  have y0 := HA0.out.c0; have y1 := HA0.out.c1; have y2 := HA0.out.c2; have y3 := HA0.out.c3; have y4 := HA0.out.c4; unfold IntAt at y0 y1
  go_enter Try.func11, Try.ntmps11
  go_wp2_with fail
  rw [← hw_wa, ← hw_wb]
  (try rw [← hs_wa])
  (try rw [← hg_gb])
  (try rw [← hg_ga])
  clear hw_wa hw_wb hg_ga hg_gb hs_wa hs_wb
  refine (check_any a _ _ ⟨_, _, _, rfl, HA0.out.is⟩).mono ?_
  rintro e w1 ⟨rfl, hb1⟩
  have HB1 := Lib.hid (bthen HB.out hb1)
  have HA1 := Lib.hid (HA0.out.ext (Ext.below hb1))
  have HD1 := Lib.hid (HD0.out.ext (Ext.below hb1))
  clear hb1 y0 y1 y2 y3 y4 HB HA0 HD0
  by_cases hka : checkCfg a = 0
  rotate_left
  · have hk' : (checkCfg a != 0) = true := by simpa using hka
    have HF := Lib.hid (show alikeB a b = false by unfold alikeB; rw [decide_eq_false (fun h => hka h.1)]; rfl)
    clear hka
    go_wp2_with fail
    go_ret
    exact ⟨ret_bool HF.out.symm, HB1.out⟩
  rw [hka]
  have y0 := HD1.out.c0; have y1 := HD1.out.c1; have y2 := HD1.out.c2; have y3 := HD1.out.c3; have y4 := HD1.out.c4; unfold IntAt at y0 y1
  go_wp2_with fail
  refine (check_any b _ _ ⟨_, _, _, rfl, HD1.out.is⟩).mono ?_
  rintro e w2 ⟨rfl, hb2⟩
  have HB2 := Lib.hid (bthen HB1.out hb2)
  have HA2 := Lib.hid (HA1.out.ext (Ext.below hb2))
  have HD2 := Lib.hid (HD1.out.ext (Ext.below hb2))
  clear hb2 y0 y1 y2 y3 y4 HB1 HA1 HD1
  by_cases hkb : checkCfg b = 0
  rotate_left
  · have hk' : (checkCfg b != 0) = true := by simpa using hkb
    have HF := Lib.hid (show alikeB a b = false by unfold alikeB; rw [decide_eq_false (fun h => hkb h.2)]; rfl)
    clear hka hkb
    go_wp2_with fail
    go_ret
    exact ⟨ret_bool HF.out.symm, HB2.out⟩
  rw [hkb]
  have HF := Lib.hid (show alikeB a b = decide (bareCfg a = bareCfg b) by unfold alikeB; rw [decide_eq_true ⟨hka, hkb⟩]; rfl)
  clear hka hkb
  have y0 := HA2.out.c0; have y1 := HA2.out.c1; have y2 := HA2.out.c2; have y3 := HA2.out.c3; have y4 := HA2.out.c4; unfold IntAt at y0 y1
  have z0 := HD2.out.c0; have z1 := HD2.out.c1; have z2 := HD2.out.c2; have z3 := HD2.out.c3; have z4 := HD2.out.c4; unfold IntAt at z0 z1
  go_wp2_with fail
  refine region_inv rfl (by kernel_rfl) (AlInv w2 (.agg #[.int .i64 a.frame, .int .i64 a.quiet, .slice a1 a.parts.length a2, .slice a3 a.windows.length a4, .slice a5 a.ports.length a6]) (.agg #[.int .i64 b.frame, .int .i64 b.quiet, .slice b1 b.parts.length b2, .slice b3 b.windows.length b4, .slice b5 b.ports.length b6]) a b) (fun vs => ⟨below_drew (Below.refl _ _), by simp, by simp, by simp, by simp, by simp, by simp, by simp⟩) ?_ ?_
  · simp only [List.map, putAll, Act.put, InvE, List.setIfInBounds_toArray, List.set_cons_succ, List.set_cons_zero, Nat.reduceAdd]
    refine ⟨?_, ?_, ?_, ?_, ?_, ?_, ?_, ?_, trivial⟩
    all_goals
      intro L vs W hI hi hn hcl K hK
      rw [if_pos (by simp [Region.wanted])]
    · have y0 := Ext.below hI.below _ _ HA2.out.c0
      have y1 := Ext.below hI.below _ _ HA2.out.c1
      have y2 := Ext.below hI.below _ _ HA2.out.c2
      have y3 := Ext.below hI.below _ _ HA2.out.c3
      have y4 := Ext.below hI.below _ _ HA2.out.c4
      unfold IntAt at y0 y1
      have HK := Lib.hid (fun v h => hK v W ⟨hI.below, fun _ => h, hI.i2, hI.i1, hI.i3, hI.i4, hI.i5, hI.ne⟩)
      clear hK hI hn hcl z0 z1 z2 z3 z4
      go_simp
      exact HK.out _ rfl
    · have r0 := hI.i0 (hn 0 rfl)
      simp only [r0] at hK ⊢
      have HK := Lib.hid hK
      have HI := Lib.hid hI
      clear hK hI hn hcl y0 y1 y2 y3 y4 z0 z1 z2 z3 z4
      go_simp
      go_at_call 16
      refine (bare_any a _ W ⟨_, _, _, rfl, HA2.out.is.ext (Ext.below HI.out.below)⟩).mono ?_
      rintro e w' ⟨pv, wv, ov, rfl, hof, hb⟩
      have k := HI.out.keep hb
      exact HK.out _ w' ⟨k.below, k.i0, k.i2, fun _ => ⟨_, _, _, rfl, hof.lower HI.out.below.size⟩, k.i3, k.i4, k.i5, k.ne⟩
    · have y0 := Ext.below hI.below _ _ HD2.out.c0
      have y1 := Ext.below hI.below _ _ HD2.out.c1
      have y2 := Ext.below hI.below _ _ HD2.out.c2
      have y3 := Ext.below hI.below _ _ HD2.out.c3
      have y4 := Ext.below hI.below _ _ HD2.out.c4
      unfold IntAt at y0 y1
      have HK := Lib.hid (fun v h => hK v W ⟨hI.below, hI.i0, fun _ => h, hI.i1, hI.i3, hI.i4, hI.i5, hI.ne⟩)
      clear hK hI hn hcl z0 z1 z2 z3 z4
      go_simp
      exact HK.out _ rfl
    · have r2 := hI.i2 (hn 2 rfl)
      simp only [r2] at hK ⊢
      have HK := Lib.hid hK
      have HI := Lib.hid hI
      clear hK hI hn hcl y0 y1 y2 y3 y4 z0 z1 z2 z3 z4
      go_simp
      go_at_call 16
      refine (bare_any b _ W ⟨_, _, _, rfl, HD2.out.is.ext (Ext.below HI.out.below)⟩).mono ?_
      rintro e w' ⟨pv, wv, ov, rfl, hof, hb⟩
      have k := HI.out.keep hb
      exact HK.out _ w' ⟨k.below, k.i0, k.i2, k.i1, fun _ => ⟨_, _, _, rfl, hof.lower HI.out.below.size⟩, k.i4, k.i5, k.ne⟩
    · have HK := Lib.hid hK
      have HI := Lib.hid hI
      have HL := Lib.hid hi
      have HC := Lib.hid (fun (q : L 6 = true) => hcl 6 _ rfl q 4 rfl)
      clear hK hI hn hcl hi y0 y1 y2 y3 y4 z0 z1 z2 z3 z4
      go_simp
      have k := HI.out.keep (balloc W (.cells #[.int .i64 0, .int .i64 0, .slice none 0 0, .slice none 0 0, .slice none 0 0] 26))
      exact HK.out _ _ ⟨k.below, k.i0, k.i2, k.i1, k.i3, fun _ => ⟨W.heap.size, rfl, HI.out.below.size, fun _ => blk_new _ _, fun q => absurd (HC.out q) (by rw [HL.out]; decide), ⟨_, blk_new _ _⟩⟩, k.i5, fun _ h e => by obtain ⟨g, h1, -, -, -, c, hc⟩ := HI.out.i5 h; have h2 : (Value.pointer (some ⟨W.heap.size, 0, none⟩)) = vs 5 := e; rw [h1] at h2; injection h2 with h2; injection h2 with h2; injection h2 with h2; have := lt_of_block hc; omega⟩
    · have HK := Lib.hid hK
      have HI := Lib.hid hI
      have HL := Lib.hid hi
      have HC := Lib.hid (fun (q : L 7 = true) => hcl 7 _ rfl q 5 rfl)
      clear hK hI hn hcl hi y0 y1 y2 y3 y4 z0 z1 z2 z3 z4
      go_simp
      have k := HI.out.keep (balloc W (.cells #[.int .i64 0, .int .i64 0, .slice none 0 0, .slice none 0 0, .slice none 0 0] 26))
      exact HK.out _ _ ⟨k.below, k.i0, k.i2, k.i1, k.i3, k.i4, fun _ => ⟨W.heap.size, rfl, HI.out.below.size, fun _ => blk_new _ _, fun q => absurd (HC.out q) (by rw [HL.out]; decide), ⟨_, blk_new _ _⟩⟩, fun h _ e => by obtain ⟨g, h1, -, -, -, c, hc⟩ := HI.out.i4 h; have h2 : vs 4 = (Value.pointer (some ⟨W.heap.size, 0, none⟩)) := e; rw [h1] at h2; injection h2 with h2; injection h2 with h2; injection h2 with h2; have := lt_of_block hc; omega⟩
    · obtain ⟨g, h4, hg, hz, -, hty⟩ := hI.i4 (hn 4 rfl)
      have hz : W.heap[g]? = _ := hz hi
      obtain ⟨pv, wv, ov, h1, hof⟩ := hI.i1 (hn 1 rfl)
      obtain ⟨c1, c2, c3, c4, c5, c6, rfl, rfl, rfl⟩ := hof.shape
      have hl4 : L 4 = true := hn 4 rfl
      obtain ⟨W2, hw_W2⟩ : ∃ W2, W2 = put5 W g (.int .i64 a.frame) (.int .i64 a.quiet) (.slice c1 a.parts.length c2) (.slice c3 a.windows.length c4) (.slice c5 a.ports.length c6) := ⟨_, rfl⟩
      have hk_W2 := put5_at hz (.int .i64 a.frame) (.int .i64 a.quiet) (.slice c1 a.parts.length c2) (.slice c3 a.windows.length c4) (.slice c5 a.ports.length c6)
      have hg_W2 := put5_grown W g (.int .i64 a.frame) (.int .i64 a.quiet) (.slice c1 a.parts.length c2) (.slice c3 a.windows.length c4) (.slice c5 a.ports.length c6)
      rw [← hw_W2] at hk_W2 hg_W2
      unfold put5 at hw_W2
      have o_W2_0 := BlockIs.of hz 0 _ rfl
      have o_W2_1 := BlockIs.of hz 1 _ rfl
      have o_W2_2 := BlockIs.of hz 2 _ rfl
      have o_W2_3 := BlockIs.of hz 3 _ rfl
      have o_W2_4 := BlockIs.of hz 4 _ rfl
      have f_W2 := thaw hz
      have e_W2_0 := BlockIs.of hk_W2 0 _ rfl
      have e_W2_1 := BlockIs.of hk_W2 1 _ rfl
      have e_W2_2 := BlockIs.of hk_W2 2 _ rfl
      have e_W2_3 := BlockIs.of hk_W2 3 _ rfl
      have e_W2_4 := BlockIs.of hk_W2 4 _ rfl
      have hr : ∀ q, some g = some q → Typed W q 26 := fun q hq => by injection hq with hq; rw [← hq]; exact hty
      have HN := Lib.hid (hI.store6 h4 hl4 hg hg_W2 hty ⟨_, _, _, hk_W2, hof.apart hg_W2 hr⟩)
      simp only [h4, h1] at hK ⊢
      have HK := Lib.hid hK
      clear hK hI hn hcl hi y0 y1 y2 y3 y4 z0 z1 z2 z3 z4 hz hof hr hty hk_W2 hg_W2 hg h4 h1 hl4 e_W2_0 e_W2_1 e_W2_2 e_W2_3 e_W2_4
      go_simp
      rw [← hw_W2]
      exact HK.out _ _ HN.out
    · obtain ⟨g, h4, hg, hz, -, hty⟩ := hI.i5 (hn 5 rfl)
      have hz : W.heap[g]? = _ := hz hi
      obtain ⟨pv, wv, ov, h1, hof⟩ := hI.i3 (hn 3 rfl)
      obtain ⟨c1, c2, c3, c4, c5, c6, rfl, rfl, rfl⟩ := hof.shape
      have hl4 : L 5 = true := hn 5 rfl
      obtain ⟨W2, hw_W2⟩ : ∃ W2, W2 = put5 W g (.int .i64 b.frame) (.int .i64 b.quiet) (.slice c1 b.parts.length c2) (.slice c3 b.windows.length c4) (.slice c5 b.ports.length c6) := ⟨_, rfl⟩
      have hk_W2 := put5_at hz (.int .i64 b.frame) (.int .i64 b.quiet) (.slice c1 b.parts.length c2) (.slice c3 b.windows.length c4) (.slice c5 b.ports.length c6)
      have hg_W2 := put5_grown W g (.int .i64 b.frame) (.int .i64 b.quiet) (.slice c1 b.parts.length c2) (.slice c3 b.windows.length c4) (.slice c5 b.ports.length c6)
      rw [← hw_W2] at hk_W2 hg_W2
      unfold put5 at hw_W2
      have o_W2_0 := BlockIs.of hz 0 _ rfl
      have o_W2_1 := BlockIs.of hz 1 _ rfl
      have o_W2_2 := BlockIs.of hz 2 _ rfl
      have o_W2_3 := BlockIs.of hz 3 _ rfl
      have o_W2_4 := BlockIs.of hz 4 _ rfl
      have f_W2 := thaw hz
      have e_W2_0 := BlockIs.of hk_W2 0 _ rfl
      have e_W2_1 := BlockIs.of hk_W2 1 _ rfl
      have e_W2_2 := BlockIs.of hk_W2 2 _ rfl
      have e_W2_3 := BlockIs.of hk_W2 3 _ rfl
      have e_W2_4 := BlockIs.of hk_W2 4 _ rfl
      have hr : ∀ q, some g = some q → Typed W q 26 := fun q hq => by injection hq with hq; rw [← hq]; exact hty
      have HN := Lib.hid (hI.store7 h4 hl4 hg hg_W2 hty ⟨_, _, _, hk_W2, hof.apart hg_W2 hr⟩)
      simp only [h4, h1] at hK ⊢
      have HK := Lib.hid hK
      clear hK hI hn hcl hi y0 y1 y2 y3 y4 z0 z1 z2 z3 z4 hz hof hr hty hk_W2 hg_W2 hg h4 h1 hl4 e_W2_0 e_W2_1 e_W2_2 e_W2_3 e_W2_4
      go_simp
      rw [← hw_W2]
      exact HK.out _ _ HN.out
  · intro vs W hI
    simp only [List.map, putAll, Act.put, List.setIfInBounds_toArray, List.set_cons_succ, List.set_cons_zero, Nat.reduceAdd]
    obtain ⟨g4, h4, hg4, -, hx4, -⟩ := hI.i4 (by simp)
    obtain ⟨p4, q4, r4, hk4, hof4⟩ := hx4 (by simp)
    obtain ⟨g5, h5, hg5, -, hx5, -⟩ := hI.i5 (by simp)
    obtain ⟨p5, q5, r5, hk5, hof5⟩ := hx5 (by simp)
    have HB3 := Lib.hid (bthen HB2.out hI.below)
    simp only [h4, h5]
    clear hI h4 h5 hx4 hx5 hg4 hg5 y0 y1 y2 y3 y4 z0 z1 z2 z3 z4 HA2 HD2 HB2
    obtain ⟨c1, c2, c3, c4, c5, c6, rfl, rfl, rfl⟩ := hof4.shape
    obtain ⟨d1, d2, d3, d4, d5, d6, rfl, rfl, rfl⟩ := hof5.shape
    have HO := Lib.hid (And.intro hof4 (And.intro hof5 (And.intro hk4 hk5)))
    have x0 := BlockIs.of hk4 0 _ rfl
    have x1 := BlockIs.of hk4 1 _ rfl
    have x2 := BlockIs.of hk4 2 _ rfl
    have t0 := BlockIs.of hk5 0 _ rfl
    have t1 := BlockIs.of hk5 1 _ rfl
    have t2 := BlockIs.of hk5 2 _ rfl
    clear hof4 hof5 hk4 hk5
    obtain ⟨e1, he1⟩ : ∃ e, (a.frame == b.frame) = e := ⟨_, rfl⟩
    obtain ⟨e2, he2⟩ : ∃ e, (a.quiet == b.quiet) = e := ⟨_, rfl⟩
    obtain ⟨e3, he3⟩ : ∃ e, decide ((bareCfg a).parts = (bareCfg b).parts) = e := ⟨_, rfl⟩
    obtain ⟨e4, he4⟩ : ∃ e, decide (a.windows = b.windows) = e := ⟨_, rfl⟩
    obtain ⟨e5, he5⟩ : ∃ e, decide (a.ports = b.ports) = e := ⟨_, rfl⟩
    have HR := Lib.hid (show alikeB a b = (e1 && (e2 && (e3 && (e4 && e5)))) by rw [HF.out, bare_eq, he1, he2, he3, he4, he5])
    have H3 := Lib.hid he3
    have H4 := Lib.hid he4
    have H5 := Lib.hid he5
    clear he3 he4 he5
    cases e1
    · go_wp2_with fail
      go_ret
      exact ⟨ret_bool HR.out.symm, HB3.out⟩
    cases e2
    · go_wp2_with fail
      go_ret
      exact ⟨ret_bool HR.out.symm, HB3.out⟩
    go_wp2_with fail
    have hpa := HO.out.1.is.parts
    have hpb := HO.out.2.1.is.parts
    refine (equalPart_any _ _ (bareCfg a).parts (bareCfg b).parts _ (by simpa [bareCfg] using hpa) (by simpa [bareCfg] using hpb)).mono ?_
    rw [H3.out]
    rintro e w6 ⟨rfl, hb6⟩
    have HB6 := Lib.hid (bthen HB3.out hb6)
    have HO6 := Lib.hid (And.intro (HO.out.1.below hb6) (And.intro (HO.out.2.1.below hb6) (And.intro (keep_at HO.out.2.2.1 hb6) (keep_at HO.out.2.2.2 hb6))))
    clear hpa hpb hb6 x0 x1 x2 t0 t1 t2 HO
    cases e3
    · go_wp2_with fail
      go_ret
      exact ⟨ret_bool HR.out.symm, HB6.out⟩
    have x3 := BlockIs.of HO6.out.2.2.1 3 _ rfl
    have t3 := BlockIs.of HO6.out.2.2.2 3 _ rfl
    go_wp2_with fail
    refine (equalWindow_any _ _ a.windows b.windows _ HO6.out.1.is.windows HO6.out.2.1.is.windows).mono ?_
    rw [H4.out]
    rintro e w7 ⟨rfl, hb7⟩
    have HB7 := Lib.hid (bthen HB6.out hb7)
    have HO7 := Lib.hid (And.intro (HO6.out.1.below hb7) (And.intro (HO6.out.2.1.below hb7) (And.intro (keep_at HO6.out.2.2.1 hb7) (keep_at HO6.out.2.2.2 hb7))))
    clear hb7 x3 t3 HO6
    cases e4
    · go_wp2_with fail
      go_ret
      exact ⟨ret_bool HR.out.symm, HB7.out⟩
    have x4 := BlockIs.of HO7.out.2.2.1 4 _ rfl
    have t4 := BlockIs.of HO7.out.2.2.2 4 _ rfl
    go_wp2_with fail
    refine (equalPort_any _ _ a.ports b.ports _ HO7.out.1.is.ports HO7.out.2.1.is.ports).mono ?_
    rw [H5.out]
    rintro e w8 ⟨rfl, hb8⟩
    have HB8 := Lib.hid (bthen HB7.out hb8)
    clear hb8 x4 t4 HO7
    cases e5
    all_goals
      go_wp2_with fail
      go_ret
      exact ⟨ret_bool HR.out.symm, HB8.out⟩
end Go.Proofs.Ytjhhncahlijohaa
