/- nocturnlaw23.awake: the walk. -/
import Derived.Test.YtjhhncahlijohaaLaw23a
set_option linter.unusedVariables false
set_option linter.unusedSimpArgs false
namespace Go.Proofs.Ytjhhncahlijohaa
open Go.RowKit

set_option maxRecDepth 100000 in
set_option maxHeartbeats 4000000 in
theorem awake23_any (w : World) :
    Calls Try.prog 6 #[] w fun e w' => e = .returned (.bool true) ∧ Below w.heap.size w w' := by
  go_enter Try.func6, Try.ntmps6
  go_wp2_with fail
  refine (plainAt23_any _).mono ?_
  rintro e w1 ⟨b, rfl, hbw, hpl, hb1⟩
  have HB1 := Lib.hid hb1
  obtain ⟨wa, hw_wa⟩ : ∃ wa, wa = w1.alloc (.cells #[.int .i64 10, .int .i64 2, plainPs b, plainWs b, plainOs b] 26) := ⟨_, rfl⟩
  obtain ⟨ga, hg_ga⟩ : ∃ ga, ga = w1.heap.size := ⟨_, rfl⟩
  have hb_wa : Below w1.heap.size w1 wa := by rw [hw_wa]; exact balloc _ _
  have hk_ga : wa.heap[ga]? = some (.cells #[.int .i64 10, .int .i64 2, plainPs b, plainWs b, plainOs b] 26 (0, 0)) := by rw [hw_wa, hg_ga]; exact blk_new _ _
  have hs_wa : wa.heap.size = w1.heap.size + 1 := by rw [hw_wa]; simp
  obtain ⟨wb, hw_wb⟩ : ∃ wb, wb = wa.alloc (.cells #[.int .i64 5, .int .i64 1, .int .i64 0, .int .i64 0, .int .i64 5, .int .i64 0, .int .i64 0, .int .i64 0, .int .i64 0, .int .i64 (-1), .int .i64 (-1), .int .i64 0] 39) := ⟨_, rfl⟩
  obtain ⟨gb, hg_gb⟩ : ∃ gb, gb = wa.heap.size := ⟨_, rfl⟩
  have hb_wb : Below wa.heap.size wa wb := by rw [hw_wb]; exact balloc _ _
  have hk_gb : wb.heap[gb]? = some (.cells #[.int .i64 5, .int .i64 1, .int .i64 0, .int .i64 0, .int .i64 5, .int .i64 0, .int .i64 0, .int .i64 0, .int .i64 0, .int .i64 (-1), .int .i64 (-1), .int .i64 0] 39 (0, 0)) := by rw [hw_wb, hg_gb]; exact blk_new _ _
  have hs_wb : wb.heap.size = wa.heap.size + 1 := by rw [hw_wb]; simp
  have HP1 := Lib.hid (PlainB.of (hpl.keep (bthen hb_wa hb_wb)))
  have HA1 := Lib.hid (keep_at hk_ga hb_wb)
  have HBb := Lib.hid (bthen HB1.out (bthen hb_wa hb_wb))
  have HEV : Hid (EventsV wb (.slice (some ⟨gb, 0, none⟩) 3 3) row23a.events) := Lib.hid ⟨_, 3, rfl, by decide, by decide, by decide, fun _ => ⟨gb, 0, rfl, fun i hi => by
    have hi : i < 3 := hi
    have hk := BlockIs.of hk_gb
    match i, hi with
    | 0, _ => exact ⟨hk 0 _ rfl, hk 1 _ rfl, hk 2 _ rfl, hk 3 _ rfl⟩
    | 1, _ => exact ⟨hk 4 _ rfl, hk 5 _ rfl, hk 6 _ rfl, hk 7 _ rfl⟩
    | 2, _ => exact ⟨hk 8 _ rfl, hk 9 _ rfl, hk 10 _ rfl, hk 11 _ rfl⟩⟩⟩
  have HGA := Lib.hid hg_ga
  clear hb1 hpl hk_ga hk_gb hb_wa hb_wb
  go_wp2_with fail
  rw [← hw_wa, ← hw_wb]
  (try rw [← hs_wa])
  (try rw [← hg_gb])
  (try rw [← hg_ga])
  clear hw_wa hw_wb hg_ga hg_gb hs_wa hs_wb
  refine (Glance_any plainCfg _ row23a _ _ ⟨_, _, _, rfl, HP1.out.is 10 2⟩ ⟨_, rfl, HEV.out⟩).mono ?_
  rw [spec23a]
  rintro e w2 ⟨v, rfl, ⟨gv, rfl, ev, rfl, hev⟩, hb2⟩
  obtain ⟨ea, ec, rfl⟩ := own_shape hev
  have HB2 := Lib.hid (bthen HBb.out hb2)
  have HP2 := Lib.hid (HP1.out.keep hb2)
  have HA2 := Lib.hid (keep_at HA1.out hb2)
  have HK2 := Lib.hid (hev.events (by decide))
  clear hev hb2 HBb HP1 HA1 HEV
  obtain ⟨wc, hw_wc⟩ : ∃ wc, wc = w2.alloc (.cells #[.int .i64 gl23.tick, .int .i64 gl23.owner, .int .i64 gl23.mode, .slice ea gl23.events.length ec] 32) := ⟨_, rfl⟩
  obtain ⟨gc, hg_gc⟩ : ∃ gc, gc = w2.heap.size := ⟨_, rfl⟩
  have hb_wc : Below w2.heap.size w2 wc := by rw [hw_wc]; exact balloc _ _
  have hk_gc : wc.heap[gc]? = some (.cells #[.int .i64 gl23.tick, .int .i64 gl23.owner, .int .i64 gl23.mode, .slice ea gl23.events.length ec] 32 (0, 0)) := by rw [hw_wc, hg_gc]; exact blk_new _ _
  have hs_wc : wc.heap.size = w2.heap.size + 1 := by rw [hw_wc]; simp
  have HP3 := Lib.hid (HP2.out.keep hb_wc)
  have HA3 := Lib.hid (keep_at HA2.out hb_wc)
  have HC3 := Lib.hid hk_gc
  have HB3 := Lib.hid (bthen HB2.out hb_wc)
  have HK3 := Lib.hid (HK2.out.ext (Ext.below hb_wc))
  have y0 := BlockIs.of HA3.out 0 _ rfl
  have y1 := BlockIs.of HA3.out 1 _ rfl
  have y2 := BlockIs.of HA3.out 2 _ rfl
  have y3 := BlockIs.of HA3.out 3 _ rfl
  have y4 := BlockIs.of HA3.out 4 _ rfl
  clear hk_gc hb_wc hs_wc HB2 HP2 HA2 HK2
  have HGC := Lib.hid hg_gc
  go_wp2_with (first | (rw [← hw_wc, ← HGC.out]; clear hw_wc hg_gc) | fail)
  refine (Glance_any plainCfg _ row23b _ _ ⟨_, _, _, rfl, HP3.out.is 10 2⟩ ⟨_, rfl, slice0 _ _ _ _⟩).mono ?_
  rw [spec23b]
  rintro e w4 ⟨v, rfl, hv, hb4⟩
  obtain rfl := hv
  have HB4 := Lib.hid (bthen HB3.out hb4)
  have HP4 := Lib.hid (HP3.out.keep hb4)
  have HA4 := Lib.hid (keep_at HA3.out hb4)
  have HC4 := Lib.hid (keep_at HC3.out hb4)
  have HK4 := Lib.hid (HK3.out.ext (Ext.below hb4))
  clear hb4 y0 y1 y2 y3 y4 HB3 HP3 HA3 HC3 HK3
  go_wp2_with fail
  have hb40 := balloc w4 (.cells #[.int .i64 0, .int .i64 0, .int .i64 0, .slice none 0 0] 32)
  refine (plainAt23_any _).mono ?_
  rintro e w5 ⟨b', rfl, hbw', hpl', hb5⟩
  have hb45 := bthen hb40 hb5
  have hbw4 : w4.heap.size ≤ b' := Nat.le_trans hb40.size hbw'
  obtain ⟨wd, hw_wd⟩ : ∃ wd, wd = w5.alloc (.cells #[.int .i64 10, .int .i64 2, plainPs b', plainWs b', plainOs b'] 26) := ⟨_, rfl⟩
  obtain ⟨gd, hg_gd⟩ : ∃ gd, gd = w5.heap.size := ⟨_, rfl⟩
  have hb_wd : Below w5.heap.size w5 wd := by rw [hw_wd]; exact balloc _ _
  have hk_gd : wd.heap[gd]? = some (.cells #[.int .i64 10, .int .i64 2, plainPs b', plainWs b', plainOs b'] 26 (0, 0)) := by rw [hw_wd, hg_gd]; exact blk_new _ _
  have hs_wd : wd.heap.size = w5.heap.size + 1 := by rw [hw_wd]; simp
  have hb4d := bthen hb45 hb_wd
  have hPD := PlainB.of (hpl'.keep hb_wd)
  have hPB := HP4.out.keep hb4d
  have hAd := keep_at HA4.out hb4d
  have hCd := keep_at HC4.out hb4d
  have hlt := hpl'.lt
  have hAl := lt_of_block HA4.out
  have hCl := lt_of_block HC4.out
  have hBl := HP4.out.lt
  obtain ⟨w6, hw6⟩ : ∃ w6, w6 = wd.setCell ⟨b' + 4, 4, none⟩ (.slice none 0 0) := ⟨_, rfl⟩
  have gP := hPD.set4 4 (.slice none 0 0)
  have gB := hPB.far (b' + 4) 4 (.slice none 0 0) (by omega)
  have gA := set_at (q := b' + 4) (j := 4) (.slice none 0 0) hAd (by omega)
  have gC := set_at (q := b' + 4) (j := 4) (.slice none 0 0) hCd (by omega)
  have gD := set_at (q := b' + 4) (j := 4) (.slice none 0 0) hk_gd (by omega)
  have b46 := bput hb4d (set_grown wd (b' + 4) 4 (.slice none 0 0)) (by omega) (Nat.le_refl _)
  rw [← hw6] at gP gB gA gC gD b46
  have HB6 := Lib.hid (bthen HB4.out b46)
  have HB46 := Lib.hid (And.intro b46 hbw4)
  have HP6 := Lib.hid gB
  have HQ6 := Lib.hid gP
  have HA6 := Lib.hid gA
  have HC6 := Lib.hid gC
  have HD6 := Lib.hid gD
  have HK6 := Lib.hid (HK4.out.ext (Ext.below b46))
  have HLT := Lib.hid (show b + 6 < b' + 4 ∧ ga ≠ b' + 4 ∧ gc ≠ b' + 4 ∧ gd ≠ b' + 4 ∧ w.heap.size ≤ b' from ⟨by omega, by omega, by omega, by omega, by have := HB4.out.size; omega⟩)
  have x2 := BlockIs.of hk_gd 2 _ rfl
  have x4 := BlockIs.of hPD.h4 4 _ rfl
  have xf := thaw hPD.h4 4
  have y0 := BlockIs.of gA 0 _ rfl
  have y1 := BlockIs.of gA 1 _ rfl
  have y2 := BlockIs.of gA 2 _ rfl
  have y3 := BlockIs.of gA 3 _ rfl
  have y4 := BlockIs.of gA 4 _ rfl
  have z0 := BlockIs.of gD 0 _ rfl
  have z1 := BlockIs.of gD 1 _ rfl
  have z2 := BlockIs.of gD 2 _ rfl
  have z3 := BlockIs.of gD 3 _ rfl
  have z4 := BlockIs.of gD 4 _ rfl
  have HGD := Lib.hid hg_gd
  clear hb40 hbw' hpl' hb5 hb45 hbw4 hb4d hPD hPB hAd hCd hlt hAl hCl hBl gP gB gA gC gD b46 hk_gd hb_wd hs_wd HB4 HP4 HA4 HC4
  go_wp2_with (first | (rw [← hw_wd, ← HGD.out]; clear hw_wd hg_gd) | (rw [← hw6]; clear hw6) | fail)
  refine (alike_any plainCfg plN1 _ _ _ ⟨_, _, _, rfl, HP6.out.is 10 2⟩ ⟨_, _, _, rfl, ⟨HQ6.out.parts HQ6.out.tasks1 HQ6.out.code (slice0 _ _ _ _) (slice0 _ _ _ _), HQ6.out.wins, HQ6.out.ports⟩⟩).mono ?_
  rw [alike23a]
  rintro e w7 ⟨rfl, hb7⟩
  obtain ⟨w8, hw8⟩ : ∃ w8, w8 = w7.setCell ⟨b' + 4, 1, none⟩ (.slice none 0 0) := ⟨_, rfl⟩
  have hP7 := HQ6.out.keep hb7
  have hD7 := keep_at HD6.out hb7
  have gP := hP7.set4 1 (.slice none 0 0)
  have gB := (HP6.out.keep hb7).far (b' + 4) 1 (.slice none 0 0) (by have := HLT.out.1; omega)
  have gA := set_at (q := b' + 4) (j := 1) (.slice none 0 0) (keep_at HA6.out hb7) HLT.out.2.1
  have gC := set_at (q := b' + 4) (j := 1) (.slice none 0 0) (keep_at HC6.out hb7) HLT.out.2.2.1
  have gD := set_at (q := b' + 4) (j := 1) (.slice none 0 0) hD7 HLT.out.2.2.2.1
  have b8 := bput (bthen HB6.out hb7) (set_grown w7 (b' + 4) 1 (.slice none 0 0)) (by have := HLT.out.2.2.2.2; omega) (Nat.le_refl _)
  rw [← hw8] at gP gB gA gC gD b8
  have b48 := bput (bthen HB46.out.1 hb7) (set_grown w7 (b' + 4) 1 (.slice none 0 0)) (by have := HB46.out.2; omega) (Nat.le_refl _)
  rw [← hw8] at b48
  have x2 := BlockIs.of hD7 2 _ rfl
  have x1 := BlockIs.of hP7.h4 1 _ rfl
  have xf := thaw hP7.h4 1
  obtain ⟨we, hw_we⟩ : ∃ we, we = w8.alloc (.cells #[.int .i64 5, .int .i64 0, .int .i64 0, .int .i64 0, .int .i64 0, .int .i64 (-1), .int .i64 (-1), .int .i64 0] 39) := ⟨_, rfl⟩
  obtain ⟨ge, hg_ge⟩ : ∃ ge, ge = w8.heap.size := ⟨_, rfl⟩
  have hb_we : Below w8.heap.size w8 we := by rw [hw_we]; exact balloc _ _
  have hk_ge : we.heap[ge]? = some (.cells #[.int .i64 5, .int .i64 0, .int .i64 0, .int .i64 0, .int .i64 0, .int .i64 (-1), .int .i64 (-1), .int .i64 0] 39 (0, 0)) := by rw [hw_we, hg_ge]; exact blk_new _ _
  have hs_we : we.heap.size = w8.heap.size + 1 := by rw [hw_we]; simp
  have HK9 := Lib.hid (HK4.out.ext (Ext.below (bthen b48 hb_we)))
  have HEV9 : Hid (EventsV we (.slice (some ⟨ge, 0, none⟩) 2 2) gl23.events) := Lib.hid ⟨_, 2, rfl, by decide, by decide, by decide, fun _ => ⟨ge, 0, rfl, fun i hi => by
    have hi : i < 2 := hi
    have hk := BlockIs.of hk_ge
    match i, hi with
    | 0, _ => exact ⟨hk 0 _ rfl, hk 1 _ rfl, hk 2 _ rfl, hk 3 _ rfl⟩
    | 1, _ => exact ⟨hk 4 _ rfl, hk 5 _ rfl, hk 6 _ rfl, hk 7 _ rfl⟩⟩⟩
  have HP9 := Lib.hid (gB.keep hb_we)
  have HQ9 := Lib.hid (gP.keep hb_we)
  have HA9 := Lib.hid (keep_at gA hb_we)
  have HD9 := Lib.hid (keep_at gD hb_we)
  have HB9 := Lib.hid (bthen b8 hb_we)
  have t0 := BlockIs.of gC 0 _ rfl
  have t1 := BlockIs.of gC 1 _ rfl
  have t2 := BlockIs.of gC 2 _ rfl
  have t3 := BlockIs.of gC 3 _ rfl
  have HGE := Lib.hid hg_ge
  clear hb7 hP7 hD7 gP gB gA gC gD b8 b48 hk_ge hb_we hs_we HB6 HP6 HQ6 HA6 HC6 HD6 HK6 HB46 HK4 HLT y0 y1 y2 y3 y4 z0 z1 z2 z3 z4
  go_wp2_with (first | (rw [← hw8]; clear hw8) | (rw [← hw_we, ← HGE.out]; clear hw_we hg_ge) | fail)
  refine (sameGlance_any gl23 _ _ _ ⟨_, rfl, HK9.out⟩ ⟨_, rfl, HEV9.out⟩).mono ?_
  rintro e w10 ⟨rfl, hb10⟩
  have HB10 := Lib.hid (bthen HB9.out hb10)
  have HP10 := Lib.hid (HP9.out.keep hb10)
  have HQ10 := Lib.hid (HQ9.out.keep hb10)
  have hA10 := keep_at HA9.out hb10
  have hD10 := keep_at HD9.out hb10
  have y0 := BlockIs.of hA10 0 _ rfl
  have y1 := BlockIs.of hA10 1 _ rfl
  have y2 := BlockIs.of hA10 2 _ rfl
  have y3 := BlockIs.of hA10 3 _ rfl
  have y4 := BlockIs.of hA10 4 _ rfl
  have z0 := BlockIs.of hD10 0 _ rfl
  have z1 := BlockIs.of hD10 1 _ rfl
  have z2 := BlockIs.of hD10 2 _ rfl
  have z3 := BlockIs.of hD10 3 _ rfl
  have z4 := BlockIs.of hD10 4 _ rfl
  clear hb10 hA10 hD10 x2 x1 x4 xf t0 t1 t2 t3 HB9 HP9 HQ9 HA9 HD9 HK9 HEV9
  go_wp2_with (first | (go_at_call 8; refine (num_any _ _).mono ?_; rintro e w' ⟨rfl, hw⟩; subst w') | fail)
  refine (alike_any plainCfg plN2 _ _ _ ⟨_, _, _, rfl, HP10.out.is 10 2⟩ ⟨_, _, _, rfl, ⟨HQ10.out.parts (slice0 _ _ _ _) HQ10.out.code (slice0 _ _ _ _) (slice0 _ _ _ _), HQ10.out.wins, HQ10.out.ports⟩⟩).mono ?_
  rw [alike23b]
  rintro e w11 ⟨rfl, hb11⟩
  have HB11 := Lib.hid (bthen HB10.out hb11)
  clear hb11
  go_wp2_with fail
  go_ret
  exact ⟨rfl, HB11.out⟩
end Go.Proofs.Ytjhhncahlijohaa
