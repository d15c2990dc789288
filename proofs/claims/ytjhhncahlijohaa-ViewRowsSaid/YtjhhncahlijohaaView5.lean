/- view.High. -/
import Derived.Test.YtjhhncahlijohaaView4
set_option linter.unusedVariables false
set_option linter.unusedSimpArgs false
namespace Go.Proofs.Ytjhhncahlijohaa
open Go.RowKit

theorem infoGlance : (Try.prog.info? 32).map (fun i => (i.zero, i.size, i.bytes)) = some (some (.agg #[.int .i64 0, .int .i64 0, .int .i64 0, .slice none 0 0]), 4, 48) := by kernel_rfl
def GlancesL (W : World) (B : Nat) (v : Value) (xs : List Glance) (L : List Value) : Prop :=
  W.ownsRow B 32 4 v xs.length L ∧ ∀ i (h : i < xs.length), ∃ ev, L[i * 4]? = some (.int .i64 xs[i].tick) ∧ L[i * 4 + 1]? = some (.int .i64 xs[i].owner) ∧ L[i * 4 + 2]? = some (.int .i64 xs[i].mode) ∧ L[i * 4 + 3]? = some ev ∧ KeptRow W B ev xs[i].events
/-- Glances: a row of the call's own. -/
def GlancesO (W : World) (B : Nat) (v : Value) (xs : List Glance) : Prop := ∃ L, GlancesL W B v xs L
theorem KeptRow.below {W W' : World} {B : Nat} {v : Value} {es : List Event} (h : KeptRow W B v es) (hb : Below W.heap.size W W') : KeptRow W' B v es := Below.kept h hb
theorem GlancesL.below {W W' : World} {B : Nat} {v : Value} {xs : List Glance} {L : List Value} (h : GlancesL W B v xs L) (hb : Below W.heap.size W W') : GlancesL W' B v xs L := by
  refine ⟨Below.kept h.1 hb, fun i hi => ?_⟩
  obtain ⟨ev, a0, a1, a2, a3, a4⟩ := h.2 i hi
  exact ⟨ev, a0, a1, a2, a3, a4.below hb⟩
theorem GlancesO.below {W W' : World} {B : Nat} {v : Value} {xs : List Glance} (h : GlancesO W B v xs) (hb : Below W.heap.size W W') : GlancesO W' B v xs := by
  obtain ⟨L, h⟩ := h
  exact ⟨L, h.below hb⟩
theorem GlancesO.nil (W : World) (B : Nat) : GlancesO W B (.slice none 0 0) [] := ⟨[], World.ownsRow_nil _ _ _ _, fun i h => absurd h (by simp)⟩
theorem GlancesL.snoc {W W' : World} {B : Nat} {v v' ev : Value} {xs : List Glance} {x : Glance} {L : List Value} (h : GlancesL W B v xs L) (he : KeptRow W B ev x.events)
    (hn : W'.ownsRow B 32 4 v' (xs.length + 1) (L ++ [.int .i64 x.tick, .int .i64 x.owner, .int .i64 x.mode, ev])) (hg : W.grownBy W' v.ownBlock) : GlancesO W' B v' (xs ++ [x]) := by
  obtain ⟨h1, h2⟩ := h
  have hr : ∀ g, v.ownBlock = some g → Typed W g 32 := fun g hg => own_typed h1 hg
  have hl : L.length = xs.length * 4 := h1.1
  refine ⟨_, by rw [List.length_append]; exact hn, fun i hi => ?_⟩
  rw [List.length_append, List.length_singleton] at hi
  by_cases e : i = xs.length
  · subst e
    refine ⟨ev, ?_, ?_, ?_, ?_, ?_⟩
    · rw [List.getElem?_append_right (by omega), show xs.length * 4 - L.length = 0 by omega]; simp
    · rw [List.getElem?_append_right (by omega), show xs.length * 4 + 1 - L.length = 1 by omega]; simp
    · rw [List.getElem?_append_right (by omega), show xs.length * 4 + 2 - L.length = 2 by omega]; simp
    · rw [List.getElem?_append_right (by omega), show xs.length * 4 + 3 - L.length = 3 by omega]; simp
    · have e : (xs ++ [x])[xs.length]'(by simp) = x := by simp
      rw [e]
      exact own_apart he hg hr (by decide)
  · obtain ⟨ev', a0, a1, a2, a3, a4⟩ := h2 i (by omega)
    rw [List.getElem_append_left (by omega)]
    exact ⟨ev', by rw [List.getElem?_append_left (by omega)]; exact a0, by rw [List.getElem?_append_left (by omega)]; exact a1, by rw [List.getElem?_append_left (by omega)]; exact a2, by rw [List.getElem?_append_left (by omega)]; exact a3, own_apart a4 hg hr (by decide)⟩
theorem GlancesO.lower {W : World} {B B' : Nat} {v : Value} {xs : List Glance} (h : GlancesO W B v xs) (hb : B' ≤ B) : GlancesO W B' v xs := by
  obtain ⟨L, h1, h2⟩ := h
  refine ⟨L, own_lower h1 hb, fun i hi => ?_⟩
  obtain ⟨ev, a0, a1, a2, a3, a4⟩ := h2 i hi
  exact ⟨ev, a0, a1, a2, a3, own_lower a4 hb⟩
def rowsBad (c : Config) (rs : List Row) : Bool := rs.any fun r => decide (r.owner < -1 ∨ (c.parts.length : Int) ≤ r.owner)
def highSpec (c : Config) (rs : List Row) : Option (List Glance) := if checkCfg c ≠ 0 ∨ rowsBad c rs = true then none else some (rs.map (glanceOf c))
def HighRes (W : World) (B : Nat) (v : Value) : Option (List Glance) → Prop
  | none => v = .tuple #[.slice none 0 0, .int .i64 2300]
  | some xs => ∃ gv, v = .tuple #[gv, .int .i64 0] ∧ GlancesO W B gv xs
theorem rowsBad_at (c : Config) (rs : List Row) (k : Nat) (h : k < rs.length) (hb : rowBad c rs[k]) : rowsBad c rs = true :=
  List.any_eq_true.2 ⟨_, List.getElem_mem h, by unfold rowBad at hb; simpa using hb⟩
theorem rowsBad_none (c : Config) (rs : List Row) (h : ∀ k (hk : k < rs.length), ¬ rowBad c rs[k]) : rowsBad c rs = false := by
  unfold rowsBad
  rw [List.any_eq_false]
  intro x hx
  obtain ⟨k, hk, rfl⟩ := List.getElem_of_mem hx
  have := h k hk
  unfold rowBad at this
  simpa using this
set_option maxRecDepth 100000 in
set_option maxHeartbeats 2000000 in
theorem high2_any (c : Config) (cv : Value) (rs : List Row) (rv : Value) (w : World) (hc : CfgV w cv c) (hr : RowsV w rv rs) :
    Calls Try.prog 12 #[cv, rv] w fun e w' => ∃ v, e = .returned v ∧ HighRes w' w.heap.size v (highSpec c rs) ∧ Below w.heap.size w w' := by
  obtain ⟨pv, wv, ov, rfl, hcfg⟩ := hc
  obtain ⟨ra, rc, rfl, h1, h2, h3, h4⟩ := hr
  have k1 := cfg_box w c _ _ _ 26 hcfg
  obtain ⟨wa, hw_wa⟩ : ∃ wa, wa = w.alloc (.cells #[.int .i64 c.frame, .int .i64 c.quiet, pv, wv, ov] 26) := ⟨_, rfl⟩
  obtain ⟨ga, hg_ga⟩ : ∃ ga, ga = w.heap.size := ⟨_, rfl⟩
  have hb_wa : Below w.heap.size w wa := by rw [hw_wa]; exact balloc _ _
  have hk_ga : wa.heap[ga]? = some (.cells #[.int .i64 c.frame, .int .i64 c.quiet, pv, wv, ov] 26 (0, 0)) := by rw [hw_wa, hg_ga]; exact blk_new _ _
  have hs_wa : wa.heap.size = w.heap.size + 1 := by rw [hw_wa]; simp
  rw [← hw_wa, ← hg_ga] at k1
  have HB := Lib.hid hb_wa
  have HC := Lib.hid k1
  have H4 := Lib.hid h4
  have hrl : rs.length ≤ 2513169434845 := by omega
  clear k1 hk_ga hb_wa hcfg h4 hs_wa
  have z0 := HC.out.c0; have z1 := HC.out.c1; have z2 := HC.out.c2; have z3 := HC.out.c3; have z4 := HC.out.c4; unfold IntAt at z0 z1
  have HGA := Lib.hid hg_ga
  go_enter Try.func12, Try.ntmps12
  go_wp2_with fail
  rw [← hw_wa, ← hg_ga]
  clear hw_wa hg_ga
  refine (check_any c _ _ ⟨_, _, _, rfl, HC.out.is⟩).mono ?_
  rintro e w1 ⟨rfl, hb1⟩
  have HB1 := Lib.hid (bthen HB.out hb1)
  have HC1 := Lib.hid (HC.out.ext (Ext.below hb1))
  clear hb1 z0 z1 z2 z3 z4 HB HC
  by_cases hck : checkCfg c = 0
  rotate_left
  · have SPEC := Lib.hid (show highSpec c rs = none by unfold highSpec; rw [if_pos (Or.inl hck)])
    have hck' : (checkCfg c != 0) = true := by simpa using hck
    clear hck
    go_wp2_with fail
    go_ret2
    exact ⟨_, rfl, by rw [SPEC.out]; exact rfl, HB1.out⟩
  rw [hck]
  have HCK := Lib.hid hck
  clear hck
  go_wp2_with fail
  go_loopw [6, 15] (fun o i wr => ∃ k : Nat, k ≤ rs.length ∧ i = .int .i64 k ∧ Hid (GlancesO wr w1.heap.size o ((rs.take k).map (glanceOf c))) ∧ Hid (∀ j (hj : j < rs.length), j < k → ¬ rowBad c rs[j]) ∧ Below w1.heap.size w1 wr) (fun _ i _ => rs.length - (intOf i).toNat)
  case atStart => exact ⟨0, by omega, rfl, Lib.hid (GlancesO.nil _ _), Lib.hid (fun j hj h => by omega), Below.refl _ _⟩
  case round =>
    obtain ⟨k, hk, rfl, HO, HN, hB⟩ := hrel
    have HBr := Lib.hid hB
    have HCr := Lib.hid (HC1.out.ext (Ext.below hB))
    clear hB
    by_cases hlt : k < rs.length
    · obtain ⟨b, off, rfl, hcell⟩ := H4.out (by intro h; rw [h] at hlt; simp at hlt)
      have HR := Lib.hid (RowAt.ext (Ext.below (bthen HB1.out HBr.out)) (hcell k hlt))
      clear hcell
      by_cases hbad : rowBad c rs[k]
      · have SPEC := Lib.hid (show highSpec c rs = none by unfold highSpec; rw [if_pos (Or.inr (rowsBad_at c rs k hlt hbad))])
        go_wp2_with fail
        refine (glance_bad ga b (off + k * 5) c rs[k] _ HCr.out.p HR.out hbad).mono ?_
        rintro e w2 ⟨rfl, hb2⟩
        have HB2 := Lib.hid (bthen (bthen HB1.out HBr.out) (bthen hb2 (balloc w2 (.cells #[.int .i64 0, .int .i64 0, .int .i64 0, .slice none 0 0] 32))))
        clear hb2 hbad
        go_wp2_with fail
        go_ret2
        exact ⟨_, rfl, by rw [SPEC.out]; exact rfl, HB2.out⟩
      · have hgd := hbad
        have HBAD := Lib.hid hbad
        go_wp2_with fail
        refine (glance_ok ga b (off + k * 5) c rs[k] _ HCr.out.p HR.out hbad).mono ?_
        rintro e w2 ⟨gv, rfl, ⟨ev, rfl, hev⟩, hb2⟩
        obtain ⟨xg, hxg⟩ : ∃ x, glanceOf c rs[k] = x := ⟨_, rfl⟩
        rw [hxg] at hev ⊢
        obtain ⟨gt, go, gm, ges⟩ := xg
        obtain ⟨ea, ec, rfl⟩ := own_shape hev
        obtain ⟨L, hL⟩ := HO.out.below hb2
        have hev' : KeptRow w2 w1.heap.size (.slice ea ges.length ec) ges := own_lower hev HBr.out.size
        obtain ⟨wc, hw_wc⟩ : ∃ wc, wc = w2.alloc (.cells #[.int .i64 gt, .int .i64 go, .int .i64 gm, .slice ea ges.length ec] 32) := ⟨_, rfl⟩
        obtain ⟨gc, hg_gc⟩ : ∃ gc, gc = w2.heap.size := ⟨_, rfl⟩
        have hb_wc : Below w2.heap.size w2 wc := by rw [hw_wc]; exact balloc _ _
        have hk_gc : wc.heap[gc]? = some (.cells #[.int .i64 gt, .int .i64 go, .int .i64 gm, .slice ea ges.length ec] 32 (0, 0)) := by rw [hw_wc, hg_gc]; exact blk_new _ _
        have hs_wc : wc.heap.size = w2.heap.size + 1 := by rw [hw_wc]; simp
        have HB3 := Lib.hid (bthen HBr.out (bthen hb2 hb_wc))
        have HL := Lib.hid (hL.below hb_wc)
        have HE := Lib.hid (hev'.below hb_wc)
        have HXG := Lib.hid hxg
        have y0 := BlockIs.of hk_gc 0 _ rfl
        have y1 := BlockIs.of hk_gc 1 _ rfl
        have y2 := BlockIs.of hk_gc 2 _ rfl
        have y3 := BlockIs.of hk_gc 3 _ rfl
        have HGC := Lib.hid hg_gc
        have HSZ := Lib.hid (show w1.heap.size ≤ wc.heap.size from HB3.out.size)
        have hkl : ((rs.take k).map (glanceOf c)).length = k := by simp; omega
        have HKL := Lib.hid hkl
        clear hk_gc hb_wc hs_wc hev hev' hb2 hL hbad hgd hxg hkl hg_gc
        go_wp2_with (first | (rw [← hw_wc, ← HGC.out]; clear hw_wc) | (at_builtin; refine append_elem rfl (.tmp 28) (.tmp 30) 58 rfl w1.heap.size 32 _ 4 48 Try.underlying58 infoGlance rfl (by decide) _ _ _ rfl HL.out.1 [.int .i64 gt, .int .i64 go, .int .i64 gm, .slice ea ges.length ec] wc.heap.size rfl rfl rfl rfl (by rw [HKL.out]; omega) (by rw [HKL.out]; omega) HSZ.out ?_))
        intro v2 w3 hown3 hbel3 hgr3
        have HN2 : Hid (GlancesO w3 w1.heap.size v2 ((rs.take (k + 1)).map (glanceOf c))) := Lib.hid (by
          have h := (HL.out.below (balloc _ _)).snoc (x := ⟨gt, go, gm, ges⟩) (HE.out.below (balloc _ _)) (by rw [HKL.out]; exact hown3) hgr3
          rw [List.take_succ_eq_append_getElem hlt, List.map_append, List.map_cons, List.map_nil, HXG.out]
          exact h)
        have HB4 := Lib.hid (HB3.out.trans hbel3)
        obtain ⟨va, vc, rfl⟩ := own_shape hown3
        clear hown3 hbel3 hgr3 HL HE HSZ y0 y1 y2 y3 HB3
        go_wp2
        go_roundw
        case rel => exact ⟨k + 1, by omega, by go_num, HN2, Lib.hid (fun j hj h => by rcases Nat.lt_succ_iff_lt_or_eq.1 h with h | rfl; exact HN.out j hj h; exact HBAD.out), HB4.out⟩
        case measure => simp [intOf]; omega
    · obtain rfl : k = rs.length := by omega
      have SPEC := Lib.hid (show highSpec c rs = some (rs.map (glanceOf c)) by unfold highSpec; rw [if_neg (by rw [rowsBad_none c rs (fun j hj => HN.out j hj hj)]; rintro (h | h); (· exact h HCK.out); (· cases h))])
      have HO2 : Hid (GlancesO wr w1.heap.size u6 (rs.map (glanceOf c))) := Lib.hid (by have := HO.out; rwa [List.take_length] at this)
      obtain ⟨va, vc, rfl⟩ := own_shape HO2.out.choose_spec.1
      go_wp2_with fail
      go_ret2
      exact ⟨_, rfl, by rw [SPEC.out]; exact ⟨_, rfl, HO2.out.lower HB1.out.size⟩, bthen HB1.out HBr.out⟩
end Go.Proofs.Ytjhhncahlijohaa
