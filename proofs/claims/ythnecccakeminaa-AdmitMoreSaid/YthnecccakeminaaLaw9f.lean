/- The law AdmitHigh: what low parts ask for does not count. -/
import Derived.Test.YthnecccakeminaaLaw9a
import Derived.Test.YthnecccakeminaaMixP
import Derived.Test.YthnecccakeminaaCopy3
import Derived.Test.YthnecccakeminaaTail
set_option linter.unusedVariables false
set_option linter.unusedSimpArgs false
namespace Go.Proofs.Ythnecccakeminaa
open Go.RowKit

/-- A part of a copy, its tasks' slice perhaps another's that lay there before. -/
def PartMix (w W : World) (B : Nat) (tv cv : Value) (x : Part) : Prop :=
  (∃ nc, W.ownsRow B 64 2 cv x.code.length nc ∧ ∀ W' b u, Ext w W' → W'.ownsRow b 64 2 u x.code.length nc → CodeV W' u x.code) ∧
  (TasksV w tv x.tasks ∨ ∃ nt, W.ownsRow B 44 6 tv x.tasks.length nt ∧ ∀ W' b u, Ext w W' → W'.ownsRow b 44 6 u x.tasks.length nt → TasksV W' u x.tasks)
theorem PartMix.is {w W : World} {B : Nat} {tv cv : Value} {x : Part} (h : PartMix w W B tv cv x) (hw : Ext w W) : PartIs W tv cv x := by
  obtain ⟨⟨nc, h1, h2⟩, h3⟩ := h
  refine ⟨?_, h2 _ _ _ hw h1⟩
  rcases h3 with h3 | ⟨nt, h3, h4⟩
  · exact h3.ext hw
  · exact h4 _ _ _ hw h3
theorem PartMix.apart {w W W' : World} {B : Nat} {tv cv : Value} {x : Part} (h : PartMix w W B tv cv x) {r : Option Nat} (hg : W.grownBy W' r) (hr : ∀ g, r = some g → Typed W g 42) : PartMix w W' B tv cv x := by
  obtain ⟨⟨nc, h1, h2⟩, h3⟩ := h
  refine ⟨⟨nc, own_apart h1 hg hr (by decide), h2⟩, ?_⟩
  rcases h3 with h3 | ⟨nt, h3, h4⟩
  · exact .inl h3
  · exact .inr ⟨nt, own_apart h3 hg hr (by decide), h4⟩
theorem PartMix.below {w W W' : World} {B : Nat} {tv cv : Value} {x : Part} (h : PartMix w W B tv cv x) (hb : Below W.heap.size W W') : PartMix w W' B tv cv x := by
  obtain ⟨⟨nc, h1, h2⟩, h3⟩ := h
  refine ⟨⟨nc, Below.kept h1 hb, h2⟩, ?_⟩
  rcases h3 with h3 | ⟨nt, h3, h4⟩
  · exact .inl h3
  · exact .inr ⟨nt, Below.kept h3 hb, h4⟩
/-- The copy's parts' block. -/
def XAt (w W : World) (B q : Nat) (l : List Part) : Prop :=
  ∃ cur, W.heap[q]? = some (.cells cur 42 (0, 0)) ∧ ∀ i (h : i < l.length), ∃ tv cv, cur[i * 3]? = some (.int .i64 l[i].level) ∧ cur[i * 3 + 1]? = some tv ∧ cur[i * 3 + 2]? = some cv ∧ PartMix w W B tv cv l[i]
theorem XAt.below {w W W' : World} {B q : Nat} {l : List Part} (h : XAt w W B q l) (hb : Below W.heap.size W W') : XAt w W' B q l := by
  obtain ⟨cur, h1, h2⟩ := h
  refine ⟨cur, keep_at h1 hb, fun i hi => ?_⟩
  obtain ⟨tv, cv, a1, a2, a3, a4⟩ := h2 i hi
  exact ⟨tv, cv, a1, a2, a3, a4.below hb⟩
theorem XAt.typed {w W : World} {B q : Nat} {l : List Part} (h : XAt w W B q l) : Typed W q 42 := by
  obtain ⟨cur, h1, -⟩ := h
  exact ⟨cur, h1⟩
theorem XAt.same {w W : World} {B q : Nat} {l l' : List Part} (h : XAt w W B q l) (e : l = l') : XAt w W B q l' := e ▸ h
theorem XAt.give {w W : World} {B q : Nat} {ps ds : List Part} {k : Nat} (h : XAt w W B q (mixTo ps ds k)) (hk : k < ps.length) (hkd : k < ds.length) (h1 : ps[k].level = 0) (h2 : ds[k].level = 0) {tv : Value} (ht : TasksV w tv ds[k].tasks) :
    XAt w (W.setCell ⟨q, k * 3 + 1, none⟩ tv) B q (mixTo ps ds (k + 1)) := by
  have hty : ∀ g, some q = some g → Typed W g 42 := fun g hg => by injection hg with hg; rw [← hg]; exact h.typed
  obtain ⟨cur, e1, e2⟩ := h
  have hgr := set_grown W q (k * 3 + 1) tv
  refine ⟨_, blk_set e1 _ _, fun i hi => ?_⟩
  have hi' : i < ps.length := by have := hi; rw [mixTo_len] at this; exact this
  obtain ⟨tv', cv', a1, a2, a3, a4⟩ := e2 i (by rw [mixTo_len]; exact hi')
  have a4 := a4.apart hgr hty
  by_cases e : i = k
  · subst e
    have hold : (mixTo ps ds i)[i]'(by rw [mixTo_len]; exact hi') = ps[i] := by rw [mixTo_get ps ds i i hi']; simp
    have hnew : (mixTo ps ds (i + 1))[i]'(by rw [mixTo_len]; exact hi') = ⟨ps[i].level, ds[i].tasks, ps[i].code⟩ := by
      rw [mixTo_get ps ds (i + 1) i hi', if_pos (by omega)]
      have hd : ds.getD i part0 = ds[i] := by simp [List.getD, List.getElem?_eq_getElem hkd]
      rw [hd]
      unfold mix1
      rw [if_pos ⟨h1, h2⟩]
    rw [hold] at a1 a4
    have hsz : i * 3 + 1 < cur.size := (Array.getElem?_eq_some_iff.1 a2).1
    refine ⟨tv, cv', ?_, ?_, ?_, ?_⟩
    · rw [hnew, Array.getElem?_setIfInBounds_ne (by omega)]; exact a1
    · rw [Array.getElem?_setIfInBounds_self_of_lt hsz]
    · rw [Array.getElem?_setIfInBounds_ne (by omega)]; exact a3
    · rw [hnew]
      exact ⟨a4.1, .inl ht⟩
  · have hsame : (mixTo ps ds (k + 1))[i]'(by rw [mixTo_len]; exact hi') = (mixTo ps ds k)[i]'(by rw [mixTo_len]; exact hi') := by
      rw [mixTo_get ps ds (k + 1) i hi', mixTo_get ps ds k i hi']
      by_cases hik : i < k
      · rw [if_pos hik, if_pos (by omega)]
      · rw [if_neg hik, if_neg (by omega)]
    rw [hsame]
    exact ⟨tv', cv', by rw [Array.getElem?_setIfInBounds_ne (by omega)]; exact a1, by rw [Array.getElem?_setIfInBounds_ne (by omega)]; exact a2, by rw [Array.getElem?_setIfInBounds_ne (by omega)]; exact a3, a4⟩
/-- A round that gives nothing. -/
theorem mix_skip {ps ds : List Part} {k : Nat} (hk : k < ps.length) (hkd : k < ds.length) (h : ¬ (ps[k].level = 0 ∧ ds[k].level = 0)) : mixTo ps ds k = mixTo ps ds (k + 1) := by
  apply List.ext_getElem (by rw [mixTo_len, mixTo_len])
  intro i h1 h2
  rw [mixTo_len] at h1
  rw [mixTo_get ps ds k i h1, mixTo_get ps ds (k + 1) i h1]
  by_cases e : i = k
  · subst e
    rw [if_neg (by omega), if_pos (by omega)]
    have hd : ds.getD i part0 = ds[i] := by simp [List.getD, List.getElem?_eq_getElem hkd]
    rw [hd]
    unfold mix1
    rw [if_neg h]
  · by_cases hik : i < k
    · rw [if_pos hik, if_pos (by omega)]
    · rw [if_neg hik, if_neg (by omega)]
theorem XAt.parts {w W : World} {B q kp : Nat} {l : List Part} (h : XAt w W B q l) (hw : Ext w W) (h1 : l.length * 56 ≤ 140737488351232) (h2 : l.length ≤ kp) (h3 : kp ≤ maxLen) : PartsV W (.slice (some ⟨q, 0, none⟩) l.length kp) l := by
  obtain ⟨cur, e1, e2⟩ := h
  refine ⟨_, kp, rfl, h1, h2, h3, fun _ => ⟨q, 0, rfl, fun i hi => ?_⟩⟩
  obtain ⟨tv, cv, a1, a2, a3, a4⟩ := e2 i hi
  have hb := BlockIs.of e1
  rw [Nat.zero_add]
  exact ⟨hb _ _ a1, tv, cv, hb _ _ a2, hb _ _ a3, a4.is hw⟩
/-- A copy's parts as they come. -/
theorem PartsOwn.x {w W : World} {B q kp : Nat} {ps : List Part} (h : PartsOwn w W B (.slice (some ⟨q, 0, none⟩) ps.length kp) ps.length ps) : XAt w W B q ps := by
  obtain ⟨L, h1, h2, -⟩ := h
  obtain ⟨cur, hcur⟩ := own_typed h1 (g := q) rfl
  have hl : L.length = ps.length * 3 := h1.1
  have hget : ∀ (j : Nat) (v : Value), L[j]? = some v → cur[j]? = some v := by
    intro j v hj
    have hjl : j < ps.length * 3 := by
      have := (List.getElem?_eq_some_iff.1 hj).1
      omega
    have hc := h1.cellAt j hjl
    rw [hj] at hc
    unfold World.cell? at hc
    rw [hcur] at hc
    simpa using hc
  refine ⟨cur, hcur, fun i hi => ?_⟩
  obtain ⟨tv, cv, a1, a2, a3, nt, nc, b1, b2, b3, b4⟩ := h2 i hi hi
  exact ⟨tv, cv, hget _ _ a1, hget _ _ a2, hget _ _ a3, ⟨nc, b2, b4⟩, .inr ⟨nt, b1, b3⟩⟩
/-- The copy and its box. -/
structure XS (w W : World) (B q gx : Nat) (cs : Array Value) (wv ov : Value) (nW nO : Nat) (nw no : List Value) (l : List Part) : Prop where
  hx : XAt w W B q l
  hw : W.ownsRow B 47 3 wv nW nw
  ho : W.ownsRow B 59 4 ov nO no
  hg : W.heap[gx]? = some (.cells cs 26 (0, 0))
theorem XS.below {w W W' : World} {B q gx : Nat} {cs : Array Value} {wv ov : Value} {nW nO : Nat} {nw no : List Value} {l : List Part} (h : XS w W B q gx cs wv ov nW nO nw no l) (hb : Below W.heap.size W W') : XS w W' B q gx cs wv ov nW nO nw no l :=
  ⟨h.hx.below hb, Below.kept h.hw hb, Below.kept h.ho hb, keep_at h.hg hb⟩
theorem XS.give {w W : World} {B q gx : Nat} {cs : Array Value} {wv ov : Value} {nW nO : Nat} {nw no : List Value} {ps ds : List Part} {k : Nat} (h : XS w W B q gx cs wv ov nW nO nw no (mixTo ps ds k)) (hk : k < ps.length) (hkd : k < ds.length) (h1 : ps[k].level = 0) (h2 : ds[k].level = 0) {tv : Value} (ht : TasksV w tv ds[k].tasks) :
    XS w (W.setCell ⟨q, k * 3 + 1, none⟩ tv) B q gx cs wv ov nW nO nw no (mixTo ps ds (k + 1)) := by
  have hty : ∀ g, some q = some g → Typed W g 42 := fun g hg => by injection hg with hg; rw [← hg]; exact h.hx.typed
  have hgr := set_grown W q (k * 3 + 1) tv
  exact ⟨h.hx.give hk hkd h1 h2 ht, own_apart h.hw hgr hty (by decide), own_apart h.ho hgr hty (by decide), typed_apart h.hg hgr hty (by decide)⟩

set_option maxRecDepth 100000 in
set_option maxHeartbeats 4000000 in
theorem admitHigh_any (c : Config) (v : Value) (d : Config) (dv : Value) (i : Int) (w : World) (hc : CfgV w v c) (hd : CfgV w dv d) :
    Calls Try.prog 8 #[v, dv, .int .i64 i] w fun e w' => e = .returned (.bool true) ∧ Below w.heap.size w w' := by
  obtain ⟨pv, wv, ov, rfl, hcfg⟩ := hc
  obtain ⟨pd, wd, od, rfl, hdfg⟩ := hd
  obtain ⟨qa, qk, ra, rk, sa, sk, rfl, rfl, rfl⟩ := hcfg.shape
  obtain ⟨qa', qk', ra', rk', sa', sk', rfl, rfl, rfl⟩ := hdfg.shape
  have h1 := balloc w (.cells #[.int .i64 c.frame, .int .i64 c.quiet, .slice qa c.parts.length qk, .slice ra c.windows.length rk, .slice sa c.ports.length sk] 26)
  obtain ⟨g, hg⟩ : ∃ g, g = w.heap.size := ⟨_, rfl⟩
  have k1 := cfg_box w c _ _ _ 26 hcfg
  rw [← hg] at k1
  obtain ⟨wa, hwa⟩ : ∃ wa, wa = w.alloc (.cells #[.int .i64 c.frame, .int .i64 c.quiet, .slice qa c.parts.length qk, .slice ra c.windows.length rk, .slice sa c.ports.length sk] 26) := ⟨_, rfl⟩
  rw [← hwa] at k1 h1
  obtain ⟨gd, hgd⟩ : ∃ gd, gd = wa.heap.size := ⟨_, rfl⟩
  have h2 := balloc wa (.cells #[.int .i64 d.frame, .int .i64 d.quiet, .slice qa' d.parts.length qk', .slice ra' d.windows.length rk', .slice sa' d.ports.length sk'] 26)
  have k2 := cfg_box wa d _ _ _ 26 (hdfg.ext (Ext.below h1))
  rw [← hgd] at k2
  have hgd1 : w.heap.size + 1 = gd := by rw [hgd, hwa]; simp
  obtain ⟨wb, hwb⟩ : ∃ wb, wb = wa.alloc (.cells #[.int .i64 d.frame, .int .i64 d.quiet, .slice qa' d.parts.length qk', .slice ra' d.windows.length rk', .slice sa' d.ports.length sk'] 26) := ⟨_, rfl⟩
  rw [← hwb] at h2 k2
  have HB0 := Lib.hid (bthen h1 h2)
  have HC0 := Lib.hid (k1.ext (Ext.below h2))
  have HD0 := Lib.hid k2
  have HW := Lib.hid (And.intro hwa (And.intro hwb (And.intro hg hgd1)))
  clear hcfg hdfg h1 h2 k1 k2 hwa hwb hg hgd hgd1
  go_enter Try.func8, Try.ntmps8
  go_wp2_with fail
  rw [HW.out.2.2.2, ← HW.out.1, ← HW.out.2.1, ← HW.out.2.2.1]
  clear HW
  refine (awake9_any _).mono ?_
  rintro e w1 ⟨rfl, hb1⟩
  have HB1 := Lib.hid (bthen HB0.out hb1)
  have HC1 := Lib.hid (HC0.out.ext (Ext.below hb1))
  have HD1 := Lib.hid (HD0.out.ext (Ext.below hb1))
  clear hb1 HB0 HC0 HD0
  have z0 := HC1.out.c0; have z1 := HC1.out.c1; have z2 := HC1.out.c2; have z3 := HC1.out.c3; have z4 := HC1.out.c4; unfold IntAt at z0 z1
  go_wp2_with fail
  refine (copyCfg_own c _ _ ⟨_, _, _, rfl, HC1.out.is⟩).mono ?_
  rintro e w2 ⟨pn, wn, on, rfl, hown, hb2⟩
  obtain ⟨nw, r1, r1'⟩ := hown.windows
  obtain ⟨aw, kw, rfl⟩ := own_shape r1
  obtain ⟨no, r2, r2'⟩ := hown.ports
  obtain ⟨ao, ko, rfl⟩ := own_shape r2
  obtain ⟨L, r3, -⟩ := hown.parts
  obtain ⟨ap, kp, rfl⟩ := own_shape r3
  clear z0 z1 z2 z3 z4
  have HB2 := Lib.hid hb2
  have hrm := hown.room
  by_cases hn : c.parts.length = 0
  · have hcv := hown.is (Ext.below hb2)
    obtain ⟨wz, hwz⟩ : ∃ wz, wz = w2.alloc (.cells #[.int .i64 c.frame, .int .i64 c.quiet, .slice ap c.parts.length kp, .slice aw c.windows.length kw, .slice ao c.ports.length ko] 26) := ⟨_, rfl⟩
    obtain ⟨gx, hgx⟩ : ∃ gx, gx = w2.heap.size := ⟨_, rfl⟩
    have hbz : Below w2.heap.size w2 wz := by rw [hwz]; exact balloc _ _
    have XZ := Lib.hid (cfg_box w2 c _ _ _ 26 hcv)
    rw [← hwz, ← hgx] at XZ
    have HBz := Lib.hid (bthen hb2 hbz)
    have HN := Lib.hid hn
    clear hown r1 r2 r3 r1' r2' hb2 hbz hcv hn
    go_wp2_with (first | (rw [← hwz, ← hgx]; clear hwz hgx) | fail)
    go_loopw [8] (fun j wr => j = .int .i64 0 ∧ Below wz.heap.size wz wr) (fun _ _ => 0)
    case atStart => exact ⟨rfl, Below.refl _ _⟩
    case round =>
      obtain ⟨rfl, hB⟩ := hrel
      have HB := Lib.hid (bthen HBz.out hB)
      have XC3 := Lib.hid (XZ.out.ext (Ext.below hB))
      have HC3 := Lib.hid (HC1.out.ext (Ext.below (bthen HBz.out hB)))
      have HB3 := Lib.hid (bthen HB1.out HB.out)
      have x2 := XC3.out.c2
      rw [HN.out] at x2
      clear hB HB
      have z0 := HC3.out.c0; have z1 := HC3.out.c1; have z2 := HC3.out.c2; have z3 := HC3.out.c3; have z4 := HC3.out.c4; unfold IntAt at z0 z1
      go_wp2_with fail
      refine (response_any c _ 0 i _ ⟨_, _, _, rfl, HC3.out.is⟩).mono ?_
      rintro e w4 ⟨rfl, hb4⟩
      have HB4 := Lib.hid (bthen HB3.out hb4)
      have XC4 := Lib.hid (XC3.out.ext (Ext.below hb4))
      have HC4 := Lib.hid (HC3.out.ext (Ext.below hb4))
      clear hb4 HB3 XC3 HC3
      clear z0 z1 z2 z3 z4 x2
      have y0 := XC4.out.c0; have y1 := XC4.out.c1; have y2 := XC4.out.c2; have y3 := XC4.out.c3; have y4 := XC4.out.c4; unfold IntAt at y0 y1
      go_wp2_with fail
      refine (response_any c _ 0 i _ ⟨_, _, _, rfl, XC4.out.is⟩).mono ?_
      rintro e w5 ⟨rfl, hb5⟩
      have HB5 := Lib.hid (bthen HB4.out hb5)
      have XC5 := Lib.hid (XC4.out.ext (Ext.below hb5))
      have HC5 := Lib.hid (HC4.out.ext (Ext.below hb5))
      clear hb5 HB4 XC4 HC4
      clear y0 y1 y2 y3 y4
      have hbad : respSpec c 0 i = (0, 900) := respSpec_bad (Or.inr (Or.inl (by unfold levelOf; rw [if_pos (by have := HN.out; omega)]; decide)))
      rw [hbad]
      clear hbad
      go_wp2_with (first | (go_at_call 13; refine (num_any _ _).mono ?_; rintro e w' ⟨rfl, hw⟩; subst w') | fail)
      go_ret
      exact ⟨rfl, HB5.out⟩
  · obtain ⟨q, kp', he, hq1, hq2, hq3⟩ := ownsRow_some r3 (by omega)
    injection he with he1 _ he3
    subst he1
    subst he3
    obtain ⟨wz, hwz⟩ : ∃ wz, wz = w2.alloc (.cells #[.int .i64 c.frame, .int .i64 c.quiet, .slice (some ⟨q, 0, none⟩) c.parts.length kp, .slice aw c.windows.length kw, .slice ao c.ports.length ko] 26) := ⟨_, rfl⟩
    obtain ⟨gx, hgx⟩ : ∃ gx, gx = w2.heap.size := ⟨_, rfl⟩
    have hbz : Below w2.heap.size w2 wz := by rw [hwz]; exact balloc _ _
    have hblk : wz.heap[gx]? = some (.cells #[.int .i64 c.frame, .int .i64 c.quiet, .slice (some ⟨q, 0, none⟩) c.parts.length kp, .slice aw c.windows.length kw, .slice ao c.ports.length ko] 26 (0, 0)) := by rw [hwz, hgx]; exact blk_new _ _
    have XZ : Hid (XS w1 wz w1.heap.size q gx #[.int .i64 c.frame, .int .i64 c.quiet, .slice (some ⟨q, 0, none⟩) c.parts.length kp, .slice aw c.windows.length kw, .slice ao c.ports.length ko] (.slice aw c.windows.length kw) (.slice ao c.ports.length ko) c.windows.length c.ports.length nw no (mixTo c.parts d.parts 0)) :=
      Lib.hid ⟨((PartsOwn.x hown.parts).below hbz).same (mixTo_zero _ _).symm, Below.kept r1 hbz, Below.kept r2 hbz, hblk⟩
    have HBz := Lib.hid (bthen hb2 hbz)
    have HR := Lib.hid (And.intro r1' r2')
    clear hown r1 r2 r3 r1' r2' hb2 hbz hblk
    go_wp2_with (first | (rw [← hwz, ← hgx]; clear hwz hgx) | fail)
    go_loopw [8] (fun j wr => ∃ k : Nat, k ≤ c.parts.length ∧ k ≤ d.parts.length ∧ j = .int .i64 k ∧ Hid (XS w1 wr w1.heap.size q gx #[.int .i64 c.frame, .int .i64 c.quiet, .slice (some ⟨q, 0, none⟩) c.parts.length kp, .slice aw c.windows.length kw, .slice ao c.ports.length ko] (.slice aw c.windows.length kw) (.slice ao c.ports.length ko) c.windows.length c.ports.length nw no (mixTo c.parts d.parts k)) ∧ Below w1.heap.size w1 wr) (fun j _ => c.parts.length - (intOf j).toNat)
    case atStart => exact ⟨0, by omega, by omega, rfl, XZ, HBz.out⟩
    case round =>
      obtain ⟨k, hk1, hk2, rfl, HX, hB⟩ := hrel
      have HB := Lib.hid hB
      have HCk := Lib.hid (HC1.out.ext (Ext.below hB))
      have d2 := (HD1.out.ext (Ext.below hB)).c2
      have x2 : wr.cell? ⟨gx, 2, none⟩ = some (.slice (some ⟨q, 0, none⟩) c.parts.length kp) := BlockIs.of HX.out.hg 2 _ rfl
      clear hB
      rcases (show (k < c.parts.length ∧ k < d.parts.length) ∨ ¬ k < c.parts.length ∨ (k < c.parts.length ∧ ¬ k < d.parts.length) by omega) with ⟨h1, h2⟩ | h1 | ⟨h1, h2⟩
      · obtain ⟨a', cap', ed, -, -, -, hd5⟩ := HD1.out.is.parts
        injection ed with ed1 _ ed3
        subst ed1
        subst ed3
        obtain ⟨bd, offd, rfl, hdc⟩ := hd5 (by intro h; rw [h] at h2; simp at h2)
        obtain ⟨y0, tv, cv, y1, y2, hpi⟩ := hdc k h2
        have HT := Lib.hid hpi.tasks
        obtain ⟨ta, tc, rfl, t2, t3, t4, -⟩ := hpi.tasks
        have y0 := Ext.below HB.out _ _ y0
        have y1 := Ext.below HB.out _ _ y1
        obtain ⟨cur, e1, e2⟩ := HX.out.hx
        obtain ⟨tv', cv', a1, a2, a3, a4⟩ := e2 k (by rw [mixTo_len]; exact h1)
        rw [mix_level c.parts d.parts k k h1] at a1
        have x0 : wr.cell? ⟨q, k * 3, none⟩ = some (.int .i64 c.parts[k].level) := BlockIs.of e1 _ _ a1
        have x1 : wr.cell? ⟨q, k * 3 + 1, none⟩ = some tv' := BlockIs.of e1 _ _ a2
        have xf : wr.frozen? ⟨q, k * 3 + 1, none⟩ = false := thaw e1 _
        clear hdc hd5 hpi y2 e1 e2 a1 a2 a3 a4
        by_cases hl : c.parts[k].level = 0
        · by_cases hld : d.parts[k].level = 0
          · rw [hl] at x0
            rw [hld] at y0
            have HL := Lib.hid (And.intro hl hld)
            clear hl hld
            go_wp2_with fail
            refine region_tail 11 (by kernel_rfl) (by kernel_rfl) ?_
            intro wy hy hby
            have hE : Ext wr wy := fun a v h => by rw [cell_of_heap hy]; exact h
            have d2 := hE _ _ d2
            have x2 := hE _ _ x2
            have y1 := hE _ _ y1
            have x1 := hE _ _ x1
            have xf : wy.frozen? ⟨q, k * 3 + 1, none⟩ = false := by rw [frozen_of_heap hy]; exact xf
            have HY := Lib.hid hby
            clear hE hy hby
            simp only [List.take_succ_cons, List.take_zero, List.drop_succ_cons, List.drop_zero]
            repeat still_step
            refine wpStill_nil ?_
            go_wp2_with fail
            go_roundw
            case rel => exact ⟨k + 1, by omega, by omega, by go_num, Lib.hid ((HX.out.below HY.out).give h1 h2 HL.out.1 HL.out.2 HT.out), (bthen HB.out HY.out).setCell (p := ⟨q, k * 3 + 1, none⟩) (by simp; omega) _⟩
            case measure => simp [intOf]; omega
          · have e4 : (d.parts[k].level == 0) = false := by simpa using hld
            have HS := Lib.hid (mix_skip h1 h2 (fun h => hld h.2))
            rw [hl] at x0
            clear hl hld
            go_wp2_with fail
            go_roundw
            case rel => exact ⟨k + 1, by omega, by omega, by go_num, Lib.hid (by rw [← HS.out]; exact HX.out), HB.out⟩
            case measure => simp [intOf]; omega
        · have e4 : (c.parts[k].level == 0) = false := by simpa using hl
          have HS := Lib.hid (mix_skip h1 h2 (fun h => hl h.1))
          clear hl
          go_wp2_with fail
          go_roundw
          case rel => exact ⟨k + 1, by omega, by omega, by go_num, Lib.hid (by rw [← HS.out]; exact HX.out), HB.out⟩
          case measure => simp [intOf]; omega
      all_goals
        have hl := mixTo_len c.parts d.parts k
        have hP := HX.out.hx.parts (kp := kp) (Ext.below HB.out) (by rw [hl]; exact hrm) (by rw [hl]; omega) hq3
        rw [hl] at hP
        have XC := Lib.hid (show CfgC wr gx (.slice (some ⟨q, 0, none⟩) c.parts.length kp) (.slice aw c.windows.length kw) (.slice ao c.ports.length ko) (withParts c (mixTo c.parts d.parts k)) from ⟨BlockIs.of HX.out.hg 0 _ rfl, BlockIs.of HX.out.hg 1 _ rfl, BlockIs.of HX.out.hg 2 _ rfl, BlockIs.of HX.out.hg 3 _ rfl, BlockIs.of HX.out.hg 4 _ rfl, hP, HR.out.1 _ _ _ (Ext.below HB.out) HX.out.hw, HR.out.2 _ _ _ (Ext.below HB.out) HX.out.ho⟩)
        clear hP hl
        have z0 := HCk.out.c0; have z1 := HCk.out.c1; have z2 := HCk.out.c2; have z3 := HCk.out.c3; have z4 := HCk.out.c4; unfold IntAt at z0 z1
        go_wp2_with fail
        refine (response_any c _ 0 i _ ⟨_, _, _, rfl, HCk.out.is⟩).mono ?_
        rintro e w4 ⟨rfl, hb4⟩
        have HB4 := Lib.hid (bthen (bthen HB1.out HB.out) hb4)
        have XC4 := Lib.hid (XC.out.ext (Ext.below hb4))
        have HC4 := Lib.hid (HCk.out.ext (Ext.below hb4))
        clear hb4 z0 z1 z2 z3 z4 XC HCk d2 x2 HX HB
        have y0 := XC4.out.c0; have y1 := XC4.out.c1; have y2 := XC4.out.c2; have y3 := XC4.out.c3; have y4 := XC4.out.c4; unfold IntAt at y0 y1
        go_wp2_with fail
        refine (response_any (withParts c (mixTo c.parts d.parts k)) _ 0 i _ ⟨_, _, _, rfl, XC4.out.is⟩).mono ?_
        rintro e w5 ⟨rfl, hb5⟩
        have HB5 := Lib.hid (bthen HB4.out hb5)
        have XC5 := Lib.hid (XC4.out.ext (Ext.below hb5))
        have HC5 := Lib.hid (HC4.out.ext (Ext.below hb5))
        clear hb5 HB4 XC4 HC4
        clear y0 y1 y2 y3 y4
        by_cases hbad : checkCfg c ≠ 0 ∨ levelOf c.parts 0 ≠ 1 ∨ i < 0 ∨ i ≥ (tasksOf c 0).length
        · rw [respSpec_bad hbad]
          clear hbad
          go_wp2_with (first | (go_at_call 13; refine (num_any _ _).mono ?_; rintro e w' ⟨rfl, hw⟩; subst w') | fail)
          go_ret
          exact ⟨rfl, HB5.out⟩
        · have hk : checkCfg c = 0 := by omega
          have hlv : levelOf c.parts 0 = 1 := by omega
          have hsp : respSpec c 0 i = respIn c 0 i.toNat := by unfold respSpec; rw [if_neg hbad]
          by_cases hbx : checkCfg (withParts c (mixTo c.parts d.parts k)) = 0
          · rw [respSpec_mix c d.parts k i hk hbx hlv]
            have ha := admitSpec_mix c d.parts k hk hbx
            obtain ⟨r, hr⟩ : ∃ r, r = (respIn c 0 i.toNat).1 := ⟨_, rfl⟩
            have he := respIn_err c 0 i.toNat
            rw [hsp, ← hr]
            have HA := Lib.hid ha
            clear hbad hk hlv hsp hbx ha hr
            have y0 := XC5.out.c0; have y1 := XC5.out.c1; have y2 := XC5.out.c2; have y3 := XC5.out.c3; have y4 := XC5.out.c4; unfold IntAt at y0 y1
            have z0 := HC5.out.c0; have z1 := HC5.out.c1; have z2 := HC5.out.c2; have z3 := HC5.out.c3; have z4 := HC5.out.c4; unfold IntAt at z0 z1
            rcases he with he | he
            all_goals
              rw [he]
              clear he
              go_wp2_with (first | (go_at_call 13; refine (num_any _ _).mono ?_; rintro e w' ⟨rfl, hw⟩; subst w') | fail)
              refine (admit_any c _ _ ⟨_, _, _, rfl, HC5.out.is⟩).mono ?_
              rintro e w6 ⟨rfl, hb6⟩
              have HB6 := Lib.hid (bthen HB5.out hb6)
              have XC6 := Lib.hid (XC5.out.ext (Ext.below hb6))
              have HC6 := Lib.hid (HC5.out.ext (Ext.below hb6))
              clear hb6 HB5 XC5 HC5
              clear y0 y1 y2 y3 y4 z0 z1 z2 z3 z4
              have y0 := XC6.out.c0; have y1 := XC6.out.c1; have y2 := XC6.out.c2; have y3 := XC6.out.c3; have y4 := XC6.out.c4; unfold IntAt at y0 y1
              go_wp2_with fail
              refine (admit_any (withParts c (mixTo c.parts d.parts k)) _ _ ⟨_, _, _, rfl, XC6.out.is⟩).mono ?_
              rintro e w7 ⟨rfl, hb7⟩
              have HB7 := Lib.hid (bthen HB6.out hb7)
              have XC7 := Lib.hid (XC6.out.ext (Ext.below hb7))
              have HC7 := Lib.hid (HC6.out.ext (Ext.below hb7))
              clear hb7 HB6 XC6 HC6
              rw [HA.out]
              clear y0 y1 y2 y3 y4
              go_wp2_with (first | (go_at_call 13; refine (num_any _ _).mono ?_; rintro e w' ⟨rfl, hw⟩; subst w') | fail)
              go_ret
              exact ⟨rfl, HB7.out⟩
          · rw [respSpec_bad (c := withParts c (mixTo c.parts d.parts k)) (Or.inl hbx), hsp]
            have he := respIn_err c 0 i.toNat
            clear hbad hk hlv hsp hbx
            rcases he with he | he
            all_goals
              rw [he]
              clear he
              go_wp2_with (first | (go_at_call 13; refine (num_any _ _).mono ?_; rintro e w' ⟨rfl, hw⟩; subst w') | fail)
              go_ret
              exact ⟨rfl, HB5.out⟩
end Go.Proofs.Ythnecccakeminaa
