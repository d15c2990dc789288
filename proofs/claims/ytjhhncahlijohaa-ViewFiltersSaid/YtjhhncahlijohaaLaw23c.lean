/- The law ViewFilters. -/
import Derived.Test.YtjhhncahlijohaaLaw23b
import Derived.Deep.RegionHeld3
set_option linter.unusedVariables false
set_option linter.unusedSimpArgs false
namespace Go.Proofs.Ytjhhncahlijohaa
open Go.RowKit

set_option maxRecDepth 100000 in
set_option maxHeartbeats 1000000 in
theorem ranks_any (c : Config) (v : Value) (p : Int) (w : World) (hc : CfgV w v c) :
    Calls Try.prog 9 #[v, .int .i64 p] w fun e w' => e = .returned (.bool (isPart c.parts p 1)) ∧ Below w.heap.size w w' := by
  obtain ⟨pv, wv, ov, rfl, h5⟩ := hc
  have k1 := cfg_box w c _ _ _ 26 h5
  obtain ⟨wa, hw_wa⟩ : ∃ wa, wa = w.alloc (.cells #[.int .i64 c.frame, .int .i64 c.quiet, pv, wv, ov] 26) := ⟨_, rfl⟩
  obtain ⟨ga, hg_ga⟩ : ∃ ga, ga = w.heap.size := ⟨_, rfl⟩
  have hb_wa : Below w.heap.size w wa := by rw [hw_wa]; exact balloc _ _
  have hk_ga : wa.heap[ga]? = some (.cells #[.int .i64 c.frame, .int .i64 c.quiet, pv, wv, ov] 26 (0, 0)) := by rw [hw_wa, hg_ga]; exact blk_new _ _
  have hs_wa : wa.heap.size = w.heap.size + 1 := by rw [hw_wa]; simp
  rw [← hw_wa, ← hg_ga] at k1
  have z2 := k1.c2
  have HB := Lib.hid hb_wa
  obtain ⟨a, cap, rfl, hp1, hp2, hp3, hp4⟩ := k1.is.parts
  clear k1 hk_ga hb_wa hs_wa h5
  by_cases h : 0 ≤ p ∧ p < c.parts.length
  · obtain ⟨n, rfl⟩ := Int.eq_ofNat_of_zero_le h.1
    have hlt : n < c.parts.length := by omega
    obtain ⟨b, off, rfl, hcell⟩ := hp4 (by intro h; rw [h] at hlt; simp at hlt)
    obtain ⟨y0, -⟩ := hcell n hlt
    unfold IntAt at y0
    clear hcell hp4
    have HI := Lib.hid (isPart_in c.parts n 1 hlt)
    have HG := Lib.hid hg_ga
    clear hg_ga
    go_enter Try.func9, Try.ntmps9
    go_wp2_with (first | (rw [← hw_wa, ← HG.out]; clear hw_wa) | fail)
    go_ret
    exact ⟨ret_bool (by rw [HI.out]; (rw [Bool.eq_iff_iff]; (try simp only [beq_iff_eq, beq_eq_false_iff_ne, ne_eq] at *); (try simp); (try omega))), HB.out⟩
  · have HI := Lib.hid (isPart_out c.parts p 1 h)
    clear hp4
    have HG := Lib.hid hg_ga
    clear hg_ga
    by_cases h0 : 0 ≤ p
    · have h1 : (c.parts.length : Int) ≤ p := by omega
      go_enter Try.func9, Try.ntmps9
      go_wp2_with (first | (rw [← hw_wa, ← HG.out]; clear hw_wa) | fail)
      (try rw [← hw_wa])
      go_ret
      exact ⟨ret_bool HI.out.symm, HB.out⟩
    · have h1 : p < 0 := by omega
      go_enter Try.func9, Try.ntmps9
      go_wp2_with (first | (rw [← hw_wa, ← HG.out]; clear hw_wa) | fail)
      (try rw [← hw_wa])
      go_ret
      exact ⟨ret_bool HI.out.symm, HB.out⟩
theorem kept_at (p : Event → Bool) (xs : List Event) (k : Nat) (hk : k < xs.length) (hp : p xs[k] = true) : ∃ h : (keptTo p xs k).length < (xs.filter p).length, (xs.filter p)[(keptTo p xs k).length] = xs[k] := by
  have e : xs.filter p = keptTo p xs k ++ xs[k] :: (xs.drop (k + 1)).filter p := by
    conv => lhs; rw [← List.take_append_drop k xs, List.filter_append, List.drop_eq_getElem_cons hk, List.filter_cons, if_pos hp]
    rfl
  have hl : (keptTo p xs k).length < (xs.filter p).length := by rw [e]; simp
  refine ⟨hl, ?_⟩
  have : (xs.filter p)[(keptTo p xs k).length]? = some xs[k] := by rw [e, List.getElem?_append_right (Nat.le_refl _)]; simp
  rw [List.getElem?_eq_getElem hl] at this
  injection this
set_option maxRecDepth 100000 in
set_option maxHeartbeats 4000000 in
theorem viewFilters_any (c : Config) (v : Value) (r : Row) (rv : Value) (w : World) (hc : CfgV w v c) (hr : RowVal w rv r) :
    Calls Try.prog 3 #[v, rv] w fun e w' => e = .returned (.bool true) ∧ Below w.heap.size w w' := by
  obtain ⟨pv, wv, ov, rfl, hcfg⟩ := hc
  obtain ⟨ev, rfl, hev⟩ := hr
  obtain ⟨ea, ec, rfl, hsz, hsz2, hsz3, -⟩ := id hev
  have k1 := cfg_box w c _ _ _ 26 hcfg
  obtain ⟨wa, hw_wa⟩ : ∃ wa, wa = w.alloc (.cells #[.int .i64 c.frame, .int .i64 c.quiet, pv, wv, ov] 26) := ⟨_, rfl⟩
  obtain ⟨ga, hg_ga⟩ : ∃ ga, ga = w.heap.size := ⟨_, rfl⟩
  have hb_wa : Below w.heap.size w wa := by rw [hw_wa]; exact balloc _ _
  have hk_ga : wa.heap[ga]? = some (.cells #[.int .i64 c.frame, .int .i64 c.quiet, pv, wv, ov] 26 (0, 0)) := by rw [hw_wa, hg_ga]; exact blk_new _ _
  have hs_wa : wa.heap.size = w.heap.size + 1 := by rw [hw_wa]; simp
  obtain ⟨wb, hw_wb⟩ : ∃ wb, wb = wa.alloc (.cells #[.int .i64 r.tick, .int .i64 r.owner, .bool r.dealt, .int .i64 r.mode, .slice ea r.events.length ec] 29) := ⟨_, rfl⟩
  obtain ⟨gb, hg_gb⟩ : ∃ gb, gb = wa.heap.size := ⟨_, rfl⟩
  have hb_wb : Below wa.heap.size wa wb := by rw [hw_wb]; exact balloc _ _
  have hk_gb : wb.heap[gb]? = some (.cells #[.int .i64 r.tick, .int .i64 r.owner, .bool r.dealt, .int .i64 r.mode, .slice ea r.events.length ec] 29 (0, 0)) := by rw [hw_wb, hg_gb]; exact blk_new _ _
  have hs_wb : wb.heap.size = wa.heap.size + 1 := by rw [hw_wb]; simp
  rw [← hw_wa, ← hg_ga] at k1
  have HB := Lib.hid (bthen hb_wa hb_wb)
  have HC := Lib.hid (k1.ext (Ext.below hb_wb))
  have HR := Lib.hid hk_gb
  have HE := Lib.hid (hev.ext (Ext.below HB.out))
  clear k1 hk_ga hk_gb hb_wa hb_wb hcfg hev
  go_enter Try.func3, Try.ntmps3
  go_wp2_with fail
  rw [← hw_wa, ← hw_wb]
  (try rw [← hs_wa])
  (try rw [← hg_gb])
  (try rw [← hg_ga])
  clear hw_wa hw_wb hg_gb hs_wa hs_wb
  refine (awake23_any _).mono ?_
  rintro e w1 ⟨rfl, hb1⟩
  have HB1 := Lib.hid (bthen HB.out hb1)
  have HC1 := Lib.hid (HC.out.ext (Ext.below hb1))
  have HR1 := Lib.hid (keep_at HR.out hb1)
  have HE1 := Lib.hid (HE.out.ext (Ext.below hb1))
  have HGA := Lib.hid hg_ga
  clear hb1 HB HC HR HE hg_ga
  have z0 := HC1.out.c0; have z1 := HC1.out.c1; have z2 := HC1.out.c2; have z3 := HC1.out.c3; have z4 := HC1.out.c4; unfold IntAt at z0 z1
  have x0 := BlockIs.of HR1.out 0 _ rfl
  have x1 := BlockIs.of HR1.out 1 _ rfl
  have x2 := BlockIs.of HR1.out 2 _ rfl
  have x3 := BlockIs.of HR1.out 3 _ rfl
  have x4 := BlockIs.of HR1.out 4 _ rfl
  go_wp2_with fail
  refine (Glance_any c _ r _ _ ⟨_, _, _, rfl, HC1.out.is⟩ ⟨_, rfl, HE1.out⟩).mono ?_
  rintro e w2 ⟨gv, rfl, hres, hb2⟩
  have HB2 := Lib.hid (bthen HB1.out hb2)
  have HC2 := Lib.hid (HC1.out.ext (Ext.below hb2))
  have HR2 := Lib.hid (keep_at HR1.out hb2)
  have HE2 := Lib.hid (HE1.out.ext (Ext.below hb2))
  clear hb2 HB1 HC1 HR1 HE1 z0 z1 z2 z3 z4 x0 x1 x2 x3 x4
  by_cases hbad : checkCfg c ≠ 0 ∨ r.owner < -1 ∨ (c.parts.length : Int) ≤ r.owner
  · have hs : glanceSpec c r = none := by unfold glanceSpec; rw [if_pos hbad]
    rw [hs] at hres
    obtain rfl := hres
    clear hbad hs
    have HB3 := Lib.hid (bthen HB2.out (balloc w2 (.cells #[.int .i64 0, .int .i64 0, .int .i64 0, .slice none 0 0] 32)))
    go_wp2_with (first | (go_at_call 8; refine (num_any _ _).mono ?_; rintro e w' ⟨rfl, hw⟩; subst w') | fail)
    go_ret
    exact ⟨rfl, by first | exact HB3.out | (rw [HGA.out]; exact HB3.out)⟩
  · have hs : glanceSpec c r = some (glanceOf c r) := by unfold glanceSpec; rw [if_neg hbad]
    rw [hs] at hres
    obtain ⟨x, hx⟩ : ∃ x, glanceOf c r = x := ⟨_, rfl⟩
    rw [hx] at hres
    obtain ⟨gt, ow, gm, ges⟩ := x
    obtain ⟨gv, rfl, ev', rfl, hev'⟩ := hres
    unfold glanceOf at hx
    injection hx with h1 how h3 h4
    subst h1; subst h3; subst h4
    obtain ⟨fa, fc, rfl⟩ := own_shape hev'
    have hfl : (r.events.filter (keepB c)).length ≤ r.events.length := List.length_filter_le _ _
    have hev2 := hev'.events (by show (r.events.filter (keepB c)).length * 32 ≤ _; omega)
    have HOW := Lib.hid how
    clear hbad hs hev' how
    obtain ⟨wc, hw_wc⟩ : ∃ wc, wc = w2.alloc (.cells #[.int .i64 r.tick, .int .i64 ow, .int .i64 r.mode, .slice fa (r.events.filter (keepB c)).length fc] 32) := ⟨_, rfl⟩
    obtain ⟨gc, hg_gc⟩ : ∃ gc, gc = w2.heap.size := ⟨_, rfl⟩
    have hb_wc : Below w2.heap.size w2 wc := by rw [hw_wc]; exact balloc _ _
    have hk_gc : wc.heap[gc]? = some (.cells #[.int .i64 r.tick, .int .i64 ow, .int .i64 r.mode, .slice fa (r.events.filter (keepB c)).length fc] 32 (0, 0)) := by rw [hw_wc, hg_gc]; exact blk_new _ _
    have hs_wc : wc.heap.size = w2.heap.size + 1 := by rw [hw_wc]; simp
    have HB3 := Lib.hid (bthen HB2.out hb_wc)
    have HC3 := Lib.hid (HC2.out.ext (Ext.below hb_wc))
    have HR3 := Lib.hid (keep_at HR2.out hb_wc)
    have HE3 := Lib.hid (HE2.out.ext (Ext.below hb_wc))
    have HG3 := Lib.hid hk_gc
    have HF3 : Hid (EventsV wc (.slice fa (r.events.filter (keepB c)).length fc) (r.events.filter (keepB c))) := Lib.hid (hev2.ext (Ext.below hb_wc))
    have HW := Lib.hid (And.intro hw_wc hg_gc)
    clear hk_gc hb_wc hs_wc hev2 HB2 HC2 HR2 HE2
    have z0 := HC3.out.c0; have z1 := HC3.out.c1; have z2 := HC3.out.c2; have z3 := HC3.out.c3; have z4 := HC3.out.c4; unfold IntAt at z0 z1
    have x1 := BlockIs.of HR3.out 1 _ rfl
    clear hw_wc hg_gc
    go_wp2_with (first | (rw [← HW.out.1, ← HW.out.2]) | (go_at_call 8; refine (num_any _ _).mono ?_; rintro e w' ⟨rfl, hw⟩; subst w') | fail)
    refine (ranks_any c _ r.owner _ ⟨_, _, _, rfl, HC3.out.is⟩).mono ?_
    rintro e w4 ⟨rfl, hb4⟩
    have HB4 := Lib.hid (bthen HB3.out hb4)
    have HC4 := Lib.hid (HC3.out.ext (Ext.below hb4))
    have HR4 := Lib.hid (keep_at HR3.out hb4)
    have HG4 := Lib.hid (keep_at HG3.out hb4)
    have HE4 := Lib.hid (HE3.out.ext (Ext.below hb4))
    have HF4 := Lib.hid (HF3.out.ext (Ext.below hb4))
    clear hb4 z0 z1 z2 z3 z4 x1 HB3 HC3 HR3 HG3 HE3 HF3 HW
    have x0 := BlockIs.of HR4.out 0 _ rfl
    have x1 := BlockIs.of HR4.out 1 _ rfl
    have x3 := BlockIs.of HR4.out 3 _ rfl
    have x4 := BlockIs.of HR4.out 4 _ rfl
    have y0 := BlockIs.of HG4.out 0 _ rfl
    have y1 := BlockIs.of HG4.out 1 _ rfl
    have y2 := BlockIs.of HG4.out 2 _ rfl
    have how := HOW.out
    obtain ⟨pp, hpp⟩ : ∃ pp, isPart c.parts r.owner 1 = pp := ⟨_, rfl⟩
    rw [hpp] at how ⊢
    have HPP := Lib.hid hpp
    clear hpp HOW
    cases pp
    all_goals
      simp only [if_true, if_false, Bool.false_eq_true] at how
      subst how
      go_wp2_with fail
      clear x0 x1 x3 x4 y0 y1 y2
      go_loopw [8, 9] (fun a i wr => ∃ k : Nat, k ≤ r.events.length ∧ i = .int .i64 k ∧ a = .int .i64 ((keptTo (keepB c) r.events k).length : Nat) ∧ Below w4.heap.size w4 wr) (fun _ i _ => r.events.length - (intOf i).toNat)
      case atStart => exact ⟨0, by omega, rfl, rfl, Below.refl _ _⟩
      case round =>
        obtain ⟨k, hk, rfl, rfl, hB⟩ := hrel
        have HBr := Lib.hid hB
        have HCr := Lib.hid (HC4.out.ext (Ext.below hB))
        have HRr := Lib.hid (keep_at HR4.out hB)
        have HGr := Lib.hid (keep_at HG4.out hB)
        have HEr := Lib.hid (HE4.out.ext (Ext.below hB))
        have HFr := Lib.hid (HF4.out.ext (Ext.below hB))
        clear hB
        have x4 := BlockIs.of HRr.out 4 _ rfl
        have y3 := BlockIs.of HGr.out 3 _ rfl
        have hkl := keptTo_le (keepB c) r.events k
        have hel : r.events.length ≤ 4398046510976 := by omega
        by_cases hlt : k < r.events.length
        · obtain ⟨aa, cc, ee, -, -, -, h5⟩ := HEr.out
          injection ee with ee _ ee3
          subst ee
          subst ee3
          obtain ⟨b5, off, rfl, hc5⟩ := h5 (by intro e; rw [e] at hlt; simp at hlt)
          obtain ⟨e0, e1, e2, e3⟩ := hc5 k hlt
          unfold IntAt at e0 e1 e2 e3
          clear hc5 h5
          by_cases hm : r.events[k].part = -1
          · have hm' : (r.events[k].part != -1) = false := by simp [hm]
            have HK := Lib.hid (show keepB c r.events[k] = true by unfold keepB; rw [decide_eq_true hm]; rfl)
            clear hm
            go_wp2_with fail
            go_quiet (fail)
            obtain ⟨wq, hq_wq, hh_wq, hb_wq⟩ : ∃ wq : World, wq = wr.drewN nq ∧ wq.heap = wr.heap ∧ Below wr.heap.size wr wq := ⟨_, rfl, rfl, below_drewN (Below.refl _ _) _⟩
            rw [← hq_wq]
            have HQ_wq := Lib.hid (And.intro hh_wq hb_wq)
            clear hq_wq hh_wq hb_wq
            replace x4 := (cell_of_heap HQ_wq.out.1 _).trans x4
            replace y3 := (cell_of_heap HQ_wq.out.1 _).trans y3
            replace e0 := (cell_of_heap HQ_wq.out.1 _).trans e0
            replace e1 := (cell_of_heap HQ_wq.out.1 _).trans e1
            replace e2 := (cell_of_heap HQ_wq.out.1 _).trans e2
            replace e3 := (cell_of_heap HQ_wq.out.1 _).trans e3
            have HBq := Lib.hid (bthen HBr.out HQ_wq.out.2)
            have HFq := Lib.hid (HFr.out.ext (Ext.below HQ_wq.out.2))
            obtain ⟨hat, hget⟩ := kept_at (keepB c) r.events k hlt HK.out
            obtain ⟨m, hm0⟩ : ∃ m, m = (keptTo (keepB c) r.events k).length := ⟨_, rfl⟩
            obtain ⟨fl, hfl0⟩ : ∃ fl, fl = (r.events.filter (keepB c)).length := ⟨_, rfl⟩
            have hget' : (r.events.filter (keepB c))[(keptTo (keepB c) r.events k).length]? = some r.events[k] := by rw [List.getElem?_eq_getElem hat, hget]
            obtain ⟨aa, cc, ee, -, -, -, h5⟩ := HFq.out
            injection ee with ee _ ee3
            subst ee
            subst ee3
            obtain ⟨b6, off6, rfl, hc6⟩ := h5 (by intro e; rw [e] at hat; simp at hat)
            have hE6 := hc6 _ hat
            rw [hget] at hE6
            obtain ⟨d0, d1, d2, d3⟩ := hE6
            rw [← hm0] at d0 d1 d2 d3 hat hkl ⊢
            rw [← hfl0] at y3 hat hfl ⊢
            have hge : decide ((fl : Int) ≤ (m : Int)) = false := by simp; omega
            have hge' : decide (fl ≤ m) = false := by simp; omega
            unfold IntAt at d0 d1 d2 d3
            have HN := Lib.hid (show ((keptTo (keepB c) r.events (k + 1)).length : Int) = (m : Int) + 1 by rw [keptTo_yes _ _ _ hlt HK.out, hm0]; simp)
            have HMF := Lib.hid (And.intro hm0 hfl0)
            clear hc6 h5 hget hget' hm0 hfl0
            go_wp2_with fail
            go_quiet (fail)
            go_wp2_with fail
            rw [HMF.out.2]
            go_roundw
            case rel => exact ⟨k + 1, by omega, by go_num, by rw [HN.out], below_drewN HBq.out _⟩
            case measure => simp [intOf]; omega
          · have hm' : (r.events[k].part != -1) = true := by simpa using hm
            have hmd : decide (r.events[k].part = -1) = false := by simpa using hm
            have z0 := HCr.out.c0; have z1 := HCr.out.c1; have z2 := HCr.out.c2; have z3 := HCr.out.c3; have z4 := HCr.out.c4; unfold IntAt at z0 z1
            obtain ⟨kp, hkp⟩ : ∃ kp, isPart c.parts r.events[k].part 1 = kp := ⟨_, rfl⟩
            have HKP := Lib.hid hkp
            have HKB := Lib.hid (show keepB c r.events[k] = kp by unfold keepB; rw [hmd, hkp]; rfl)
            have hD : Below wr.heap.size wr wr.drew := below_drew (Below.refl _ _)
            clear hm hkp hmd
            go_wp2_with fail
            have hS0 : (fun w' : World => w'.cell? ⟨ga, 0, none⟩ = some (.int .i64 c.frame) ∧ w'.cell? ⟨ga, 1, none⟩ = some (.int .i64 c.quiet) ∧ w'.cell? ⟨ga, 2, none⟩ = some pv ∧ w'.cell? ⟨ga, 3, none⟩ = some wv ∧ w'.cell? ⟨ga, 4, none⟩ = some ov ∧ w'.cell? ⟨gb, 4, none⟩ = some (.slice (some ⟨b5, off, none⟩) r.events.length ec) ∧ w'.cell? ⟨b5, off + k * 4 + 1, none⟩ = some (.int .i64 r.events[k].part) ∧ Below wr.heap.size wr w') wr.drew := ⟨z0, z1, z2, z3, z4, x4, e1, hD⟩
            have kS : ∀ W W' : World, (fun w' : World => w'.cell? ⟨ga, 0, none⟩ = some (.int .i64 c.frame) ∧ w'.cell? ⟨ga, 1, none⟩ = some (.int .i64 c.quiet) ∧ w'.cell? ⟨ga, 2, none⟩ = some pv ∧ w'.cell? ⟨ga, 3, none⟩ = some wv ∧ w'.cell? ⟨ga, 4, none⟩ = some ov ∧ w'.cell? ⟨gb, 4, none⟩ = some (.slice (some ⟨b5, off, none⟩) r.events.length ec) ∧ w'.cell? ⟨b5, off + k * 4 + 1, none⟩ = some (.int .i64 r.events[k].part) ∧ Below wr.heap.size wr w') W → Below W.heap.size W W' → (fun w' : World => w'.cell? ⟨ga, 0, none⟩ = some (.int .i64 c.frame) ∧ w'.cell? ⟨ga, 1, none⟩ = some (.int .i64 c.quiet) ∧ w'.cell? ⟨ga, 2, none⟩ = some pv ∧ w'.cell? ⟨ga, 3, none⟩ = some wv ∧ w'.cell? ⟨ga, 4, none⟩ = some ov ∧ w'.cell? ⟨gb, 4, none⟩ = some (.slice (some ⟨b5, off, none⟩) r.events.length ec) ∧ w'.cell? ⟨b5, off + k * 4 + 1, none⟩ = some (.int .i64 r.events[k].part) ∧ Below wr.heap.size wr w') W' := by
              rintro W W' ⟨b0, b1, b2, b3, b4, b5', b6, hB⟩ hb
              exact ⟨Ext.below hb _ _ b0, Ext.below hb _ _ b1, Ext.below hb _ _ b2, Ext.below hb _ _ b3, Ext.below hb _ _ b4, Ext.below hb _ _ b5', Ext.below hb _ _ b6, bthen hB hb⟩
            go_region_held3 (fun w' : World => w'.cell? ⟨ga, 0, none⟩ = some (.int .i64 c.frame) ∧ w'.cell? ⟨ga, 1, none⟩ = some (.int .i64 c.quiet) ∧ w'.cell? ⟨ga, 2, none⟩ = some pv ∧ w'.cell? ⟨ga, 3, none⟩ = some wv ∧ w'.cell? ⟨ga, 4, none⟩ = some ov ∧ w'.cell? ⟨gb, 4, none⟩ = some (.slice (some ⟨b5, off, none⟩) r.events.length ec) ∧ w'.cell? ⟨b5, off + k * 4 + 1, none⟩ = some (.int .i64 r.events[k].part) ∧ Below wr.heap.size wr w') (first | exact hS0 | exact kS _ _ hS0 hb7)
              ((go_at_call 9; refine (ranks_any c _ r.events[k].part _ ⟨_, _, _, rfl, HCr.out.is.ext (Ext.below hD)⟩).mono ?_; rw [HKP.out]; rintro e w7 ⟨rfl, hb7⟩))
            have HX7 := Lib.hid (bthen hD hb7)
            have HB7 := Lib.hid (bthen HBr.out HX7.out)
            clear hb7 hD z0 z1 z2 z3 z4 hS0 kS
            replace x4 := Ext.below HX7.out _ _ x4
            replace y3 := Ext.below HX7.out _ _ y3
            replace e0 := Ext.below HX7.out _ _ e0
            replace e1 := Ext.below HX7.out _ _ e1
            replace e2 := Ext.below HX7.out _ _ e2
            replace e3 := Ext.below HX7.out _ _ e3
            cases kp
            · have HN := Lib.hid (keptTo_no (keepB c) r.events k hlt HKB.out)
              go_wp2_with fail
              go_roundw
              case rel => exact ⟨k + 1, by omega, by go_num, by rw [HN.out], HB7.out⟩
              case measure => simp [intOf]; omega
            · have HK := HKB
              obtain ⟨wq, hwq⟩ : ∃ wq, wq = w7 := ⟨_, rfl⟩
              rw [← hwq]
              have HBq := Lib.hid (show Below w4.heap.size w4 wq by rw [hwq]; exact HB7.out)
              have HFq := Lib.hid (show EventsV wq _ _ by rw [hwq]; exact HFr.out.ext (Ext.below HX7.out))
              rw [← hwq] at x4 y3 e0 e1 e2 e3
              clear hwq
              obtain ⟨hat, hget⟩ := kept_at (keepB c) r.events k hlt HK.out
              obtain ⟨m, hm0⟩ : ∃ m, m = (keptTo (keepB c) r.events k).length := ⟨_, rfl⟩
              obtain ⟨fl, hfl0⟩ : ∃ fl, fl = (r.events.filter (keepB c)).length := ⟨_, rfl⟩
              have hget' : (r.events.filter (keepB c))[(keptTo (keepB c) r.events k).length]? = some r.events[k] := by rw [List.getElem?_eq_getElem hat, hget]
              obtain ⟨aa, cc, ee, -, -, -, h5⟩ := HFq.out
              injection ee with ee _ ee3
              subst ee
              subst ee3
              obtain ⟨b6, off6, rfl, hc6⟩ := h5 (by intro e; rw [e] at hat; simp at hat)
              have hE6 := hc6 _ hat
              rw [hget] at hE6
              obtain ⟨d0, d1, d2, d3⟩ := hE6
              rw [← hm0] at d0 d1 d2 d3 hat hkl ⊢
              rw [← hfl0] at y3 hat hfl ⊢
              have hge : decide ((fl : Int) ≤ (m : Int)) = false := by simp; omega
              have hge' : decide (fl ≤ m) = false := by simp; omega
              unfold IntAt at d0 d1 d2 d3
              have HN := Lib.hid (show ((keptTo (keepB c) r.events (k + 1)).length : Int) = (m : Int) + 1 by rw [keptTo_yes _ _ _ hlt HK.out, hm0]; simp)
              have HMF := Lib.hid (And.intro hm0 hfl0)
              clear hc6 h5 hget hget' hm0 hfl0
              go_wp2_with fail
              go_quiet (fail)
              go_wp2_with fail
              rw [HMF.out.2]
              go_roundw
              case rel => exact ⟨k + 1, by omega, by go_num, by rw [HN.out], below_drewN HBq.out _⟩
              case measure => simp [intOf]; omega
        · obtain rfl : k = r.events.length := by omega
          have hfin : ((keptTo (keepB c) r.events r.events.length).length : Int) = ((r.events.filter (keepB c)).length : Int) := by rw [keptTo_all]
          rw [keptTo_all]
          clear hfin
          go_wp2_with fail
          go_ret
          exact ⟨rfl, bthen HB4.out HBr.out⟩
end Go.Proofs.Ytjhhncahlijohaa
