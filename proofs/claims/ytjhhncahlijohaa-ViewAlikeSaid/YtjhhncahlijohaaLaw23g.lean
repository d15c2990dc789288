/- The law ViewAlike. -/
import Derived.Test.YtjhhncahlijohaaLaw23f
import Derived.Test.YtjhhncahlijohaaCopyD
import Derived.Test.YtjhhncahlijohaaRegI
import Derived.Deep.CutBlock
import Derived.Deep.DeepCutAuto
set_option linter.unusedVariables false
set_option linter.unusedSimpArgs false
namespace Go.Proofs.Ytjhhncahlijohaa
open Go.RowKit

structure VaInv (w : World) (b b' gc gd : Nat) (k : Int) (L : Nat → Bool) (vs : Nat → Value) (W : World) : Prop where
  hs : Below w.heap.size w W ∧ PlainB W b plT1 plI1 plI2 plT3 (plC4 b) plW1 plW2 plO ∧ W.heap[gc]? = some (.cells #[.int .i64 10, .int .i64 2, plainPs b, plainWs b, plainOs b] 26 (0, 0))
  hd : W.heap[gd]? = some (.cells #[.int .i64 10, .int .i64 2, plainPs b', plainWs b', plainOs b'] 26 (0, 0))
  h1 : W.heap[b' + 1]? = some (.cells #[.int .i64 0, .int .i64 10, .int .i64 10, .int .i64 2, .int .i64 4, .int .i64 1] 48 (0, 0))
  h2 : W.heap[b' + 2]? = some (.cells #[.int .i64 1, .int .i64 7, .int .i64 9, .int .i64 0] 54 (0, 0))
  h5 : W.heap[b' + 5]? = some (.cells #[.int .i64 0, .int .i64 5, .int .i64 0, .int .i64 6, .int .i64 9, .int .i64 1] 44 (0, 0))
  h6 : W.heap[b' + 6]? = some (.cells #[.int .i64 1, .int .i64 0, .int .i64 1, .int .i64 2] 46 (0, 0))
  h4 : W.heap[b' + 4]? = some (.cells #[.int .i64 1, .slice (some ⟨b' + 1, 0, none⟩) 1 1, .slice (some ⟨b' + 2, 0, none⟩) 2 2, .int .i64 0, if L 16 = true then vs 13 else .slice (some ⟨b' + 3, 0, none⟩) 1 1, .slice none 0 0] 52 (0, 0))
  h3 : L 13 = false → W.heap[b' + 3]? = some (.cells #[.int .i64 1, .int .i64 5, .int .i64 5, .int .i64 3, .int .i64 3, .int .i64 0] 48 (0, 0))
  r13 : L 13 = true → W.ownsRow b' 48 6 (vs 13) 2 ([.int .i64 1, .int .i64 5, .int .i64 5, .int .i64 3, .int .i64 3, .int .i64 0] ++ [.int .i64 0, .int .i64 9, .int .i64 9, .int .i64 (1 + k), .int .i64 (1 + k), .int .i64 9])
  i0 : L 0 = true → vs 0 = .pointer (some ⟨gd, 2, none⟩)
  i1 : L 1 = true → vs 1 = plainPs b'
  i2 : L 2 = true → vs 2 = .pointer (some ⟨gd, 2, none⟩)
  i3 : L 3 = true → vs 3 = plainPs b'
  i4 : L 4 = true → vs 4 = .pointer (some ⟨b' + 4, 3, none⟩)
  i5 : L 5 = true → vs 5 = .pointer (some ⟨b' + 4, 4, none⟩)
  i6 : L 6 = true → vs 6 = .slice (some ⟨b' + 3, 0, none⟩) 1 1
  i7 : L 7 = true → vs 7 = .int .i64 k
  i8 : L 8 = true → vs 8 = .int .i64 (1 + k)
  i9 : L 9 = true → vs 9 = .int .i64 k
  i10 : L 10 = true → vs 10 = .int .i64 (1 + k)
  i11 : L 11 = true → vs 11 = .agg #[.int .i64 0, .int .i64 9, .int .i64 9, .int .i64 (1 + k), .int .i64 (1 + k), .int .i64 9]
  i12 : L 12 = true → ∃ g, vs 12 = .slice (some ⟨g, 0, none⟩) 1 1 ∧ W.heap[g]? = some (.cells #[.int .i64 0, .int .i64 9, .int .i64 9, .int .i64 (1 + k), .int .i64 (1 + k), .int .i64 9] 48 (0, 0)) ∧ g ≠ b' + 3
  i14 : L 14 = true → vs 14 = .pointer (some ⟨b' + 4, 3, none⟩)
  i15 : L 15 = true → vs 15 = .pointer (some ⟨b' + 4, 4, none⟩)
theorem VaInv.grown {w : World} {b b' gc gd : Nat} {k : Int} {L : Nat → Bool} {vs : Nat → Value} {W W' : World} (h : VaInv w b b' gc gd k L vs W) (hb : Below W.heap.size W W') : VaInv w b b' gc gd k L vs W' :=
  ⟨⟨bthen h.hs.1 hb, h.hs.2.1.keep hb, keep_at h.hs.2.2 hb⟩, keep_at h.hd hb, keep_at h.h1 hb, keep_at h.h2 hb, keep_at h.h5 hb, keep_at h.h6 hb, keep_at h.h4 hb, fun q => keep_at (h.h3 q) hb, fun q => Below.kept (h.r13 q) hb, h.i0, h.i1, h.i2, h.i3, h.i4, h.i5, h.i6, h.i7, h.i8, h.i9, h.i10, h.i11, fun q => (by obtain ⟨g, e1, e2, e3⟩ := h.i12 q; exact ⟨g, e1, keep_at e2 hb, e3⟩), h.i14, h.i15⟩
theorem va_set {w wd : World} {b b' gc gd q j : Nat} {v : Value} (hs : Below w.heap.size w wd ∧ PlainB wd b plT1 plI1 plI2 plT3 (plC4 b) plW1 plW2 plO ∧ wd.heap[gc]? = some (.cells #[.int .i64 10, .int .i64 2, plainPs b, plainWs b, plainOs b] 26 (0, 0))) (hg : b + 6 < b' ∧ b' + 6 < gc ∧ gc < gd ∧ gd < wd.heap.size ∧ w.heap.size ≤ b) (h1 : b + 6 < q) (h2 : gc ≠ q) :
    Below w.heap.size w (wd.setCell ⟨q, j, none⟩ v) ∧ PlainB (wd.setCell ⟨q, j, none⟩ v) b plT1 plI1 plI2 plT3 (plC4 b) plW1 plW2 plO ∧ (wd.setCell ⟨q, j, none⟩ v).heap[gc]? = some (.cells #[.int .i64 10, .int .i64 2, plainPs b, plainWs b, plainOs b] 26 (0, 0)) :=
  ⟨bput hs.1 (set_grown wd q j v) (by omega) (Nat.le_refl _), hs.2.1.far q j v (.inl h1), set_at v hs.2.2 h2⟩
set_option maxRecDepth 100000 in
set_option maxHeartbeats 8000000 in
theorem viewAlike_any (which x : Int) (w : World) :
    Calls Try.prog 4 #[.int .i64 which, .int .i64 x] w fun e w' => e = .returned (.bool true) ∧ Below w.heap.size w w' := by
  go_enter Try.func4, Try.ntmps4
  go_wp2_with fail
  refine (awake23_any _).mono ?_
  rintro e w0 ⟨rfl, hb0⟩
  have HB0 := Lib.hid hb0
  clear hb0
  go_wp2_with fail
  refine (plainAt23_any _).mono ?_
  rintro e w1 ⟨b, rfl, hbw, hpl, hb1⟩
  have HB1 := Lib.hid (bthen HB0.out hb1)
  have HBB := Lib.hid (Nat.le_trans HB0.out.size hbw)
  have HP1 := Lib.hid (PlainB.of hpl)
  clear hb1 hbw hpl HB0
  go_wp2_with fail
  refine (plainAt23_any _).mono ?_
  rintro e w2 ⟨b', rfl, hbw', hpl', hb2⟩
  have hlt2 := hpl'.lt
  have hlt1 := (HP1.out.keep hb2).lt
  obtain ⟨wc, hw_wc⟩ : ∃ wc, wc = w2.alloc (.cells #[.int .i64 10, .int .i64 2, plainPs b, plainWs b, plainOs b] 26) := ⟨_, rfl⟩
  obtain ⟨gc, hg_gc⟩ : ∃ gc, gc = w2.heap.size := ⟨_, rfl⟩
  have hb_wc : Below w2.heap.size w2 wc := by rw [hw_wc]; exact balloc _ _
  have hk_gc : wc.heap[gc]? = some (.cells #[.int .i64 10, .int .i64 2, plainPs b, plainWs b, plainOs b] 26 (0, 0)) := by rw [hw_wc, hg_gc]; exact blk_new _ _
  have hs_wc : wc.heap.size = w2.heap.size + 1 := by rw [hw_wc]; simp
  obtain ⟨wd, hw_wd⟩ : ∃ wd, wd = wc.alloc (.cells #[.int .i64 10, .int .i64 2, plainPs b', plainWs b', plainOs b'] 26) := ⟨_, rfl⟩
  obtain ⟨gd, hg_gd⟩ : ∃ gd, gd = wc.heap.size := ⟨_, rfl⟩
  have hb_wd : Below wc.heap.size wc wd := by rw [hw_wd]; exact balloc _ _
  have hk_gd : wd.heap[gd]? = some (.cells #[.int .i64 10, .int .i64 2, plainPs b', plainWs b', plainOs b'] 26 (0, 0)) := by rw [hw_wd, hg_gd]; exact blk_new _ _
  have hs_wd : wd.heap.size = wc.heap.size + 1 := by rw [hw_wd]; simp
  have HG := Lib.hid (show b + 6 < b' ∧ b' + 6 < gc ∧ gc < gd ∧ gd < wd.heap.size ∧ w.heap.size ≤ b by have h1 := HP1.out.lt; have h2 := HBB.out; omega)
  have HS := Lib.hid (show Below w.heap.size w wd ∧ PlainB wd b plT1 plI1 plI2 plT3 (plC4 b) plW1 plW2 plO ∧ wd.heap[gc]? = some (.cells #[.int .i64 10, .int .i64 2, plainPs b, plainWs b, plainOs b] 26 (0, 0)) from ⟨bthen HB1.out (bthen hb2 (bthen hb_wc hb_wd)), HP1.out.keep (bthen hb2 (bthen hb_wc hb_wd)), keep_at hk_gc hb_wd⟩)
  have HQ := Lib.hid (show PlainB wd b' plT1 plI1 plI2 plT3 (plC4 b') plW1 plW2 plO ∧ wd.heap[gd]? = some (.cells #[.int .i64 10, .int .i64 2, plainPs b', plainWs b', plainOs b'] 26 (0, 0)) from ⟨PlainB.of (hpl'.keep (bthen hb_wc hb_wd)), hk_gd⟩)
  obtain ⟨q, hq⟩ := Int.eq_ofNat_of_zero_le (show 0 ≤ IntKind.u64.wrap which by rw [IntKind.wrap_u64]; omega)
  obtain ⟨wh, hwh⟩ : ∃ wh, wh = q % 11 := ⟨_, rfl⟩
  have hwl : wh < 11 := by omega
  have hm1 : (q : Int).tmod 11 = (wh : Int) := by rw [Int.tmod_eq_emod_of_nonneg (by omega), hwh]; rfl
  have hm2 : (q : Int) % 11 = (wh : Int) := by rw [hwh]; rfl
  have hw1 : IntKind.u64.wrap (wh : Int) = (wh : Int) := by rw [IntKind.wrap_u64]; omega
  obtain ⟨k, hk⟩ := Int.eq_ofNat_of_zero_le (show 0 ≤ bits BinOp.and IntKind.i64 x 7 by rw [i64_and7]; omega)
  have hkl : k ≤ 7 := by have := i64_and7 x; omega
  obtain ⟨k4, hk4⟩ := Int.eq_ofNat_of_zero_le (show 0 ≤ bits BinOp.and IntKind.i64 (k : Int) 3 by rw [i64_and3]; omega)
  have hk4e : k4 = k % 4 := by have := i64_and3 (k : Int); omega
  have HK4 := Lib.hid hk4e
  clear hwh hk4e hlt1 hlt2 hpl' hbw' hb2 hb_wc hb_wd hk_gc hk_gd HB1 HP1 HBB
  have HGS := Lib.hid (And.intro hg_gc (And.intro hg_gd hs_wc))
  go_upto_block 0 with (fail)
  rw [← hw_wc, ← hw_wd, ← HGS.out.2.2, ← HGS.out.2.1, ← HGS.out.1]
  clear hw_wc hw_wd hg_gc hg_gd hs_wc hs_wd
  go_cut [8] (fun s wx => s = .bool (vaWant wh) ∧ Hid (VaSt w wx gc gd b (vaCfg wh k)))
  case first =>
    have y0 := BlockIs.of HQ.out.2 0 _ rfl
    have y1 := BlockIs.of HQ.out.2 1 _ rfl
    have y2 := BlockIs.of HQ.out.2 2 _ rfl
    have y3 := BlockIs.of HQ.out.2 3 _ rfl
    have y4 := BlockIs.of HQ.out.2 4 _ rfl
    have fg : ∀ j, wd.frozen? ⟨gd, j, none⟩ = false := fun j => thaw HQ.out.2 j
    rcases (show wh = 0 ∨ wh = 1 ∨ wh = 2 ∨ wh = 3 ∨ wh = 4 ∨ wh = 5 ∨ wh = 6 ∨ wh = 7 ∨ wh = 8 ∨ wh = 9 ∨ wh = 10 by omega) with rfl | rfl | rfl | rfl | rfl | rfl | rfl | rfl | rfl | rfl | rfl
    · have hs := va_set HS.out HG.out (q := gd) (j := 0) (v := .int .i64 (11 + k)) (by have := HG.out; omega) (by have := HG.out; omega)
      have ff := fg 0
      have ho : CfgP (wd.setCell ⟨gd, 0, none⟩ (.int .i64 (11 + k))) gd (vaCfg 0 k) := (by have h := blk_set HQ.out.2 0 (.int .i64 (11 + k)); exact ⟨_, _, _, BlockIs.of h 0 _ rfl, BlockIs.of h 1 _ rfl, BlockIs.of h 2 _ rfl, BlockIs.of h 3 _ rfl, BlockIs.of h 4 _ rfl, (HQ.out.1.far gd 0 (.int .i64 (11 + k)) (by have := HG.out; omega)).is _ _⟩)
      obtain ⟨wx, hwx⟩ : ∃ wx, wx = wd.setCell ⟨gd, 0, none⟩ (.int .i64 (11 + k)) := ⟨_, rfl⟩
      rw [← hwx] at hs ho
      have HV := Lib.hid (show VaSt w wx gc gd b (vaCfg 0 k) from ⟨hs.1, hs.2.1, hs.2.2, ho⟩)
      clear hs ho fg hm1 hm2 hwl
      go_wp2_with fail
      (try rw [← hwx])
      go_meet
      exact ⟨rfl, HV⟩
    · have hs := va_set HS.out HG.out (q := gd) (j := 1) (v := .int .i64 (3 + k)) (by have := HG.out; omega) (by have := HG.out; omega)
      have ff := fg 1
      have ho : CfgP (wd.setCell ⟨gd, 1, none⟩ (.int .i64 (3 + k))) gd (vaCfg 1 k) := (by have h := blk_set HQ.out.2 1 (.int .i64 (3 + k)); exact ⟨_, _, _, BlockIs.of h 0 _ rfl, BlockIs.of h 1 _ rfl, BlockIs.of h 2 _ rfl, BlockIs.of h 3 _ rfl, BlockIs.of h 4 _ rfl, (HQ.out.1.far gd 1 (.int .i64 (3 + k)) (by have := HG.out; omega)).is _ _⟩)
      obtain ⟨wx, hwx⟩ : ∃ wx, wx = wd.setCell ⟨gd, 1, none⟩ (.int .i64 (3 + k)) := ⟨_, rfl⟩
      rw [← hwx] at hs ho
      have HV := Lib.hid (show VaSt w wx gc gd b (vaCfg 1 k) from ⟨hs.1, hs.2.1, hs.2.2, ho⟩)
      clear hs ho fg hm1 hm2 hwl
      go_wp2_with fail
      (try rw [← hwx])
      go_meet
      exact ⟨rfl, HV⟩
    · have hs := va_set HS.out HG.out (q := b' + 5) (j := 4) (v := .int .i64 8) (by have := HG.out; omega) (by have := HG.out; omega)
      have ox := BlockIs.of HQ.out.1.h5 4 _ rfl
      have ff := thaw HQ.out.1.h5 4
      have ho : CfgP (wd.setCell ⟨b' + 5, 4, none⟩ (.int .i64 8)) gd (vaCfg 2 k) := (by have hp := (show PlainB (wd.setCell ⟨b' + 5, 4, none⟩ (.int .i64 8)) b' plT1 plI1 plI2 plT3 (plC4 b') plW1 ⟨6, 8, 1⟩ plO from ⟨set_at (q := b' + 5) (j := 4) (.int .i64 8) HQ.out.1.h1 (by omega), set_at (q := b' + 5) (j := 4) (.int .i64 8) HQ.out.1.h2 (by omega), set_at (q := b' + 5) (j := 4) (.int .i64 8) HQ.out.1.h3 (by omega), set_at (q := b' + 5) (j := 4) (.int .i64 8) HQ.out.1.h4 (by omega), blk_set HQ.out.1.h5 4 (.int .i64 8), set_at (q := b' + 5) (j := 4) (.int .i64 8) HQ.out.1.h6 (by omega)⟩); have h := set_at (q := b' + 5) (j := 4) (.int .i64 8) HQ.out.2 (by have := HG.out; omega); exact ⟨_, _, _, BlockIs.of h 0 _ rfl, BlockIs.of h 1 _ rfl, BlockIs.of h 2 _ rfl, BlockIs.of h 3 _ rfl, BlockIs.of h 4 _ rfl, hp.is 10 2⟩)
      obtain ⟨wx, hwx⟩ : ∃ wx, wx = wd.setCell ⟨b' + 5, 4, none⟩ (.int .i64 8) := ⟨_, rfl⟩
      rw [← hwx] at hs ho
      have HV := Lib.hid (show VaSt w wx gc gd b (vaCfg 2 k) from ⟨hs.1, hs.2.1, hs.2.2, ho⟩)
      clear hs ho fg hm1 hm2 hwl
      go_wp2_with fail
      (try rw [← hwx])
      go_meet
      exact ⟨rfl, HV⟩
    · have hs := va_set HS.out HG.out (q := gd) (j := 3) (v := .slice (some ⟨b' + 5, 0, none⟩) 1 2) (by have := HG.out; omega) (by have := HG.out; omega)
      have ff := fg 3
      have ho : CfgP (wd.setCell ⟨gd, 3, none⟩ (.slice (some ⟨b' + 5, 0, none⟩) 1 2)) gd (vaCfg 3 k) := (by have h := blk_set HQ.out.2 3 (.slice (some ⟨b' + 5, 0, none⟩) 1 2); exact ⟨_, _, _, BlockIs.of h 0 _ rfl, BlockIs.of h 1 _ rfl, BlockIs.of h 2 _ rfl, BlockIs.of h 3 _ rfl, BlockIs.of h 4 _ rfl, ⟨(HQ.out.1.far gd 3 (.slice (some ⟨b' + 5, 0, none⟩) 1 2) (by have := HG.out; omega)).parts (HQ.out.1.far gd 3 (.slice (some ⟨b' + 5, 0, none⟩) 1 2) (by have := HG.out; omega)).tasks1 (HQ.out.1.far gd 3 (.slice (some ⟨b' + 5, 0, none⟩) 1 2) (by have := HG.out; omega)).code (HQ.out.1.far gd 3 (.slice (some ⟨b' + 5, 0, none⟩) 1 2) (by have := HG.out; omega)).tasks3 (slice0 _ _ _ _), (SliceAt.take (HQ.out.1.far gd 3 (.slice (some ⟨b' + 5, 0, none⟩) 1 2) (by have := HG.out; omega)).wins 1 (by decide)), (HQ.out.1.far gd 3 (.slice (some ⟨b' + 5, 0, none⟩) 1 2) (by have := HG.out; omega)).ports⟩⟩)
      obtain ⟨wx, hwx⟩ : ∃ wx, wx = wd.setCell ⟨gd, 3, none⟩ (.slice (some ⟨b' + 5, 0, none⟩) 1 2) := ⟨_, rfl⟩
      rw [← hwx] at hs ho
      have HV := Lib.hid (show VaSt w wx gc gd b (vaCfg 3 k) from ⟨hs.1, hs.2.1, hs.2.2, ho⟩)
      clear hs ho fg hm1 hm2 hwl
      go_wp2_with fail
      (try rw [← hwx])
      go_meet
      exact ⟨rfl, HV⟩
    · have hs := va_set HS.out HG.out (q := b' + 6) (j := 3) (v := .int .i64 (3 + k4)) (by have := HG.out; omega) (by have := HG.out; omega)
      have ox := BlockIs.of HQ.out.1.h6 3 _ rfl
      have ff := thaw HQ.out.1.h6 3
      have e4 : vaCfg 4 k = ⟨10, 2, [⟨1, [plT1], [plI1, plI2]⟩, ⟨0, [plT3], []⟩], [plW1, plW2], [⟨1, 0, 1, 3 + (k4 : Int)⟩]⟩ := by rw [HK4.out]; rfl
      have hk43 : k4 ≤ 3 := by have := HK4.out; omega
      have ho : CfgP (wd.setCell ⟨b' + 6, 3, none⟩ (.int .i64 (3 + k4))) gd (vaCfg 4 k) := (by rw [e4]; have hp := (show PlainB (wd.setCell ⟨b' + 6, 3, none⟩ (.int .i64 (3 + k4))) b' plT1 plI1 plI2 plT3 (plC4 b') plW1 plW2 ⟨1, 0, 1, 3 + (k4 : Int)⟩ from ⟨set_at (q := b' + 6) (j := 3) (.int .i64 (3 + k4)) HQ.out.1.h1 (by omega), set_at (q := b' + 6) (j := 3) (.int .i64 (3 + k4)) HQ.out.1.h2 (by omega), set_at (q := b' + 6) (j := 3) (.int .i64 (3 + k4)) HQ.out.1.h3 (by omega), set_at (q := b' + 6) (j := 3) (.int .i64 (3 + k4)) HQ.out.1.h4 (by omega), set_at (q := b' + 6) (j := 3) (.int .i64 (3 + k4)) HQ.out.1.h5 (by omega), blk_set HQ.out.1.h6 3 (.int .i64 (3 + k4))⟩); have h := set_at (q := b' + 6) (j := 3) (.int .i64 (3 + k4)) HQ.out.2 (by have := HG.out; omega); exact ⟨_, _, _, BlockIs.of h 0 _ rfl, BlockIs.of h 1 _ rfl, BlockIs.of h 2 _ rfl, BlockIs.of h 3 _ rfl, BlockIs.of h 4 _ rfl, hp.is 10 2⟩)
      obtain ⟨wx, hwx⟩ : ∃ wx, wx = wd.setCell ⟨b' + 6, 3, none⟩ (.int .i64 (3 + k4)) := ⟨_, rfl⟩
      rw [← hwx] at hs ho
      have HV := Lib.hid (show VaSt w wx gc gd b (vaCfg 4 k) from ⟨hs.1, hs.2.1, hs.2.2, ho⟩)
      clear hs ho fg hm1 hm2 hwl
      go_wp2_with fail
      (try rw [← hwx])
      go_meet
      exact ⟨rfl, HV⟩
    · have hs := va_set HS.out HG.out (q := gd) (j := 4) (v := .slice none 0 0) (by have := HG.out; omega) (by have := HG.out; omega)
      have ff := fg 4
      have ho : CfgP (wd.setCell ⟨gd, 4, none⟩ (.slice none 0 0)) gd (vaCfg 5 k) := (by have h := blk_set HQ.out.2 4 (.slice none 0 0); exact ⟨_, _, _, BlockIs.of h 0 _ rfl, BlockIs.of h 1 _ rfl, BlockIs.of h 2 _ rfl, BlockIs.of h 3 _ rfl, BlockIs.of h 4 _ rfl, ⟨(HQ.out.1.far gd 4 (.slice none 0 0) (by have := HG.out; omega)).parts (HQ.out.1.far gd 4 (.slice none 0 0) (by have := HG.out; omega)).tasks1 (HQ.out.1.far gd 4 (.slice none 0 0) (by have := HG.out; omega)).code (HQ.out.1.far gd 4 (.slice none 0 0) (by have := HG.out; omega)).tasks3 (slice0 _ _ _ _), (HQ.out.1.far gd 4 (.slice none 0 0) (by have := HG.out; omega)).wins, slice0 _ _ _ _⟩⟩)
      obtain ⟨wx, hwx⟩ : ∃ wx, wx = wd.setCell ⟨gd, 4, none⟩ (.slice none 0 0) := ⟨_, rfl⟩
      rw [← hwx] at hs ho
      have HV := Lib.hid (show VaSt w wx gc gd b (vaCfg 5 k) from ⟨hs.1, hs.2.1, hs.2.2, ho⟩)
      clear hs ho fg hm1 hm2 hwl
      go_wp2_with fail
      (try rw [← hwx])
      go_meet
      exact ⟨rfl, HV⟩
    · have hs := va_set HS.out HG.out (q := b' + 1) (j := 3) (v := .int .i64 1) (by have := HG.out; omega) (by have := HG.out; omega)
      have ox := BlockIs.of HQ.out.1.h1 3 _ rfl
      have ff := thaw HQ.out.1.h1 3
      have op := BlockIs.of HQ.out.1.h4 1 _ rfl
      have ho : CfgP (wd.setCell ⟨b' + 1, 3, none⟩ (.int .i64 1)) gd (vaCfg 6 k) := (by have hp := (show PlainB (wd.setCell ⟨b' + 1, 3, none⟩ (.int .i64 1)) b' ⟨0, 10, 10, 1, 4, 1⟩ plI1 plI2 plT3 (plC4 b') plW1 plW2 plO from ⟨blk_set HQ.out.1.h1 3 (.int .i64 1), set_at (q := b' + 1) (j := 3) (.int .i64 1) HQ.out.1.h2 (by omega), set_at (q := b' + 1) (j := 3) (.int .i64 1) HQ.out.1.h3 (by omega), set_at (q := b' + 1) (j := 3) (.int .i64 1) HQ.out.1.h4 (by omega), set_at (q := b' + 1) (j := 3) (.int .i64 1) HQ.out.1.h5 (by omega), set_at (q := b' + 1) (j := 3) (.int .i64 1) HQ.out.1.h6 (by omega)⟩); have h := set_at (q := b' + 1) (j := 3) (.int .i64 1) HQ.out.2 (by have := HG.out; omega); exact ⟨_, _, _, BlockIs.of h 0 _ rfl, BlockIs.of h 1 _ rfl, BlockIs.of h 2 _ rfl, BlockIs.of h 3 _ rfl, BlockIs.of h 4 _ rfl, hp.is 10 2⟩)
      obtain ⟨wx, hwx⟩ : ∃ wx, wx = wd.setCell ⟨b' + 1, 3, none⟩ (.int .i64 1) := ⟨_, rfl⟩
      rw [← hwx] at hs ho
      have HV := Lib.hid (show VaSt w wx gc gd b (vaCfg 6 k) from ⟨hs.1, hs.2.1, hs.2.2, ho⟩)
      clear hs ho fg hm1 hm2 hwl
      go_wp2_with fail
      (try rw [← hwx])
      go_meet
      exact ⟨rfl, HV⟩
    · have hs := va_set HS.out HG.out (q := b' + 2) (j := 1) (v := .int .i64 (8 + k)) (by have := HG.out; omega) (by have := HG.out; omega)
      have ox := BlockIs.of HQ.out.1.h2 1 _ rfl
      have ff := thaw HQ.out.1.h2 1
      have op := BlockIs.of HQ.out.1.h4 2 _ rfl
      have ho : CfgP (wd.setCell ⟨b' + 2, 1, none⟩ (.int .i64 (8 + k))) gd (vaCfg 7 k) := (by have hp := (show PlainB (wd.setCell ⟨b' + 2, 1, none⟩ (.int .i64 (8 + k))) b' plT1 ⟨1, 8 + k⟩ plI2 plT3 (plC4 b') plW1 plW2 plO from ⟨set_at (q := b' + 2) (j := 1) (.int .i64 (8 + k)) HQ.out.1.h1 (by omega), blk_set HQ.out.1.h2 1 (.int .i64 (8 + k)), set_at (q := b' + 2) (j := 1) (.int .i64 (8 + k)) HQ.out.1.h3 (by omega), set_at (q := b' + 2) (j := 1) (.int .i64 (8 + k)) HQ.out.1.h4 (by omega), set_at (q := b' + 2) (j := 1) (.int .i64 (8 + k)) HQ.out.1.h5 (by omega), set_at (q := b' + 2) (j := 1) (.int .i64 (8 + k)) HQ.out.1.h6 (by omega)⟩); have h := set_at (q := b' + 2) (j := 1) (.int .i64 (8 + k)) HQ.out.2 (by have := HG.out; omega); exact ⟨_, _, _, BlockIs.of h 0 _ rfl, BlockIs.of h 1 _ rfl, BlockIs.of h 2 _ rfl, BlockIs.of h 3 _ rfl, BlockIs.of h 4 _ rfl, hp.is 10 2⟩)
      obtain ⟨wx, hwx⟩ : ∃ wx, wx = wd.setCell ⟨b' + 2, 1, none⟩ (.int .i64 (8 + k)) := ⟨_, rfl⟩
      rw [← hwx] at hs ho
      have HV := Lib.hid (show VaSt w wx gc gd b (vaCfg 7 k) from ⟨hs.1, hs.2.1, hs.2.2, ho⟩)
      clear hs ho fg hm1 hm2 hwl
      go_wp2_with fail
      (try rw [← hwx])
      go_meet
      exact ⟨rfl, HV⟩
    · have hown : wd.ownsRow b' 52 3 (.slice (some ⟨b' + 4, 0, none⟩) 2 2) 2 [.int .i64 1, .slice (some ⟨b' + 1, 0, none⟩) 1 1, .slice (some ⟨b' + 2, 0, none⟩) 2 2, .int .i64 0, .slice (some ⟨b' + 3, 0, none⟩) 1 1, .slice none 0 0] :=
        ⟨rfl, .inr ⟨b' + 4, 2, _, rfl, by omega, HQ.out.1.h4, by omega, by decide, rfl, rfl⟩⟩
      have HOWN := Lib.hid hown
      obtain ⟨we, hw_we⟩ : ∃ we, we = wd.alloc (.cells #[.int .i64 0, .slice none 0 0, .slice none 0 0] 52) := ⟨_, rfl⟩
      obtain ⟨ge, hg_ge⟩ : ∃ ge, ge = wd.heap.size := ⟨_, rfl⟩
      have hb_we : Below wd.heap.size wd we := by rw [hw_we]; exact balloc _ _
      have hk_ge : we.heap[ge]? = some (.cells #[.int .i64 0, .slice none 0 0, .slice none 0 0] 52 (0, 0)) := by rw [hw_we, hg_ge]; exact blk_new _ _
      have hs_we : we.heap.size = wd.heap.size + 1 := by rw [hw_we]; simp
      have HE := Lib.hid hb_we
      have HGE := Lib.hid (And.intro hw_we hg_ge)
      clear hown hb_we hk_ge hs_we hw_we hg_ge fg hm1 hm2 hwl
      go_wp2_with (at_builtin; refine append_elem rfl (.tmp 83) (.tmp 85) 22 rfl b' 52 _ 3 56 Try.underlying22 cinfoPart rfl (by decide) _ _ _ rfl HOWN.out [.int .i64 0, .slice none 0 0, .slice none 0 0] wd.heap.size rfl rfl rfl rfl (by omega) (by omega) (by have := HG.out; omega) ?_)
      intro v2 w3 hown3 hbel3 hgr3
      rw [← HGE.out.1] at hgr3
      obtain ⟨g2, cap2, rfl, hg20, hg21, hg22⟩ := ownsRow_some hown3 (by omega)
      have hne2 : g2 ≠ gd := by
        rintro rfl
        obtain ⟨cur, hcur⟩ := own_typed hown3 (g := g2) rfl
        have h := (hgr3.block g2 (by have := HG.out; have := HE.out.size; omega) (by intro e; simp only [Value.ownBlock, Option.some.injEq] at e; have := HG.out; omega)).trans (keep_at HQ.out.2 HE.out)
        rw [hcur] at h
        injection h with h
        injection h with _ h
        revert h
        decide
      have hkeep : ∀ g o, g ≠ b' + 4 → wd.heap[g]? = some o → w3.heap[g]? = some o := fun g o hne ho => (hgr3.block g (by have h1 := (Array.getElem?_eq_some_iff.1 ho).1; have h2 := HE.out.size; omega) (by intro e; injection e with e; exact hne e)).trans (keep_at ho HE.out)
      have hk3 := hkeep gd _ (by have := HG.out; omega) HQ.out.2
      have hty : ∀ q, some gd = some q → Typed w3 q 26 := fun q hq => by injection hq with hq; rw [← hq]; exact ⟨_, hk3⟩
      have hbw3 : Below w.heap.size w w3 := (HS.out.1.trans (HE.out.mono HS.out.1.size)).grown hgr3 (by have h1 := HS.out.1.size; have h2 := HE.out.size; omega) (fun kk hkk => by simp only [Value.ownBlock, Option.some.injEq] at hkk; have := HG.out; omega)
      have y2' := BlockIs.of hk3 2 _ rfl
      have ff := thaw hk3 2
      obtain ⟨wx, hwx⟩ : ∃ wx, wx = w3.setCell ⟨gd, 2, none⟩ (.slice (some ⟨g2, 0, none⟩) 3 cap2) := ⟨_, rfl⟩
      have hgx := set_grown w3 gd 2 (.slice (some ⟨g2, 0, none⟩) 3 cap2)
      have hdx := blk_set hk3 2 (.slice (some ⟨g2, 0, none⟩) 3 cap2)
      have hownx := own_apart hown3 hgx hty (by decide)
      have hbx := bput hbw3 hgx (by have := HG.out; omega) (Nat.le_refl _)
      rw [← hwx] at hgx hdx hownx hbx
      have hkx : ∀ g o, g ≠ b' + 4 → g ≠ gd → wd.heap[g]? = some o → wx.heap[g]? = some o := fun g o h1 h2 ho => by rw [hwx]; exact set_at _ (hkeep g o h1 ho) h2
      have hg := HG.out
      have hplx : PlainB wx b plT1 plI1 plI2 plT3 (plC4 b) plW1 plW2 plO :=
        ⟨hkx _ _ (by omega) (by omega) HS.out.2.1.h1, hkx _ _ (by omega) (by omega) HS.out.2.1.h2, hkx _ _ (by omega) (by omega) HS.out.2.1.h3, hkx _ _ (by omega) (by omega) HS.out.2.1.h4, hkx _ _ (by omega) (by omega) HS.out.2.1.h5, hkx _ _ (by omega) (by omega) HS.out.2.1.h6⟩
      have hbxx := hkx gc _ (by omega) (by omega) HS.out.2.2
      have ht1 : TasksV wx (.slice (some ⟨b' + 1, 0, none⟩) 1 1) [plT1] := slice1 (by decide) (task_of (BlockIs.of (hkx (b' + 1) _ (by omega) (by omega) HQ.out.1.h1)) _ rfl rfl rfl rfl rfl rfl)
      have ht3 : TasksV wx (.slice (some ⟨b' + 3, 0, none⟩) 1 1) [plT3] := slice1 (by decide) (task_of (BlockIs.of (hkx (b' + 3) _ (by omega) (by omega) HQ.out.1.h3)) _ rfl rfl rfl rfl rfl rfl)
      have hk2 := BlockIs.of (hkx (b' + 2) _ (by omega) (by omega) HQ.out.1.h2)
      have hc2 : CodeV wx (.slice (some ⟨b' + 2, 0, none⟩) 2 2) [plI1, plI2] := slice2 (by decide) (show InstrAt wx (b' + 2) 0 plI1 from ⟨hk2 0 _ rfl, hk2 1 _ rfl⟩) (show InstrAt wx (b' + 2) 2 plI2 from ⟨hk2 2 _ rfl, hk2 3 _ rfl⟩)
      have hk5 := BlockIs.of (hkx (b' + 5) _ (by omega) (by omega) HQ.out.1.h5)
      have hws : WindowsV wx (plainWs b') [plW1, plW2] := slice2 (by decide) (show WindowAt wx (b' + 5) 0 plW1 from ⟨hk5 0 _ rfl, hk5 1 _ rfl, hk5 2 _ rfl⟩) (show WindowAt wx (b' + 5) 3 plW2 from ⟨hk5 3 _ rfl, hk5 4 _ rfl, hk5 5 _ rfl⟩)
      have hk6 := BlockIs.of (hkx (b' + 6) _ (by omega) (by omega) HQ.out.1.h6)
      have hos : PortsV wx (plainOs b') [plO] := slice1 (by decide) (show PortAt wx (b' + 6) 0 plO from ⟨hk6 0 _ rfl, hk6 1 _ rfl, hk6 2 _ rfl, hk6 3 _ rfl⟩)
      have hcl : ∀ jj (h : jj < 9), wx.cell? ⟨g2, jj, none⟩ = _ := fun jj hjj => hownx.cellAt jj hjj
      have hps : PartsV wx (.slice (some ⟨g2, 0, none⟩) 3 cap2) [⟨1, [plT1], [plI1, plI2]⟩, ⟨0, [plT3], []⟩, ⟨0, [], []⟩] := ⟨some ⟨g2, 0, none⟩, cap2, rfl, by decide, hg21, hg22, fun _ => ⟨g2, 0, rfl, fun i hi => by
        have hi : i < 3 := hi
        match i, hi with
        | 0, _ => exact ⟨hcl 0 (by omega), _, _, hcl 1 (by omega), hcl 2 (by omega), ⟨ht1, hc2⟩⟩
        | 1, _ => exact ⟨hcl 3 (by omega), _, _, hcl 4 (by omega), hcl 5 (by omega), ⟨ht3, slice0 _ _ _ _⟩⟩
        | 2, _ => exact ⟨hcl 6 (by omega), _, _, hcl 7 (by omega), hcl 8 (by omega), ⟨slice0 _ _ _ _, slice0 _ _ _ _⟩⟩⟩⟩
      have ho : CfgP wx gd (vaCfg 8 k) := ⟨_, _, _, BlockIs.of hdx 0 _ rfl, BlockIs.of hdx 1 _ rfl, BlockIs.of hdx 2 _ rfl, BlockIs.of hdx 3 _ rfl, BlockIs.of hdx 4 _ rfl, ⟨hps, hws, hos⟩⟩
      have HV := Lib.hid (show VaSt w wx gc gd b (vaCfg 8 k) from ⟨hbx, hplx, hbxx, ho⟩)
      clear hown3 hbel3 hgr3 hkeep hk3 hty hbw3 hgx hdx hownx hbx hkx hg hplx hbxx ht1 ht3 hk2 hc2 hk5 hws hk6 hos hcl hps ho hne2 hg20 hg21 hg22 HOWN HE y0 y1 y2 y3 y4
      go_wp2_with fail
      (try rw [← hwx])
      go_meet
      exact ⟨rfl, HV⟩
    · clear fg hm1 hm2 hwl
      go_wp2_with fail
      have HGo := HG.out
      have HWK := Lib.hid (show IntKind.i64.wrap (1 + (k : Int)) = 1 + (k : Int) by rw [IntKind.wrap_i64]; omega)
      refine region_inv rfl (by kernel_rfl) (VaInv w b b' gc gd k) (fun vs => ⟨⟨below_drew HS.out.1, HS.out.2.1.keep (below_drew (Below.refl _ _)), HS.out.2.2⟩, HQ.out.2, HQ.out.1.h1, HQ.out.1.h2, HQ.out.1.h5, HQ.out.1.h6, HQ.out.1.h4, fun _ => HQ.out.1.h3, by simp, by simp, by simp, by simp, by simp, by simp, by simp, by simp, by simp, by simp, by simp, by simp, by simp, by simp, by simp, by simp⟩) ?_ ?_
      · simp (config := { maxSteps := 4000000 }) only [List.map, putAll, Act.put, InvE, List.setIfInBounds_toArray, List.set_cons_succ, List.set_cons_zero, Nat.reduceAdd]
        refine ⟨?_, ?_, ?_, ?_, ?_, ?_, ?_, ?_, ?_, ?_, ?_, ?_, ?_, ?_, ?_, ?_, ?_, trivial⟩
        all_goals
          intro L vs W hI hi hn hcl KK hK
          rw [if_pos (by simp [Region.wanted])]
        · have HK := Lib.hid (fun v h => hK v W ⟨hI.hs, hI.hd, hI.h1, hI.h2, hI.h5, hI.h6, hI.h4, hI.h3, hI.r13, fun _ => h, hI.i1, hI.i2, hI.i3, hI.i4, hI.i5, hI.i6, hI.i7, hI.i8, hI.i9, hI.i10, hI.i11, hI.i12, hI.i14, hI.i15⟩)
          clear hK hI hn hcl
          go_simp
          exact HK.out _ rfl
        · have r0 := hI.i0 (hn 0 rfl)
          have z2 := BlockIs.of hI.hd 2 _ rfl
          simp only [r0] at hK ⊢
          have HK := Lib.hid (fun v h => hK v W ⟨hI.hs, hI.hd, hI.h1, hI.h2, hI.h5, hI.h6, hI.h4, hI.h3, hI.r13, hI.i0, fun _ => h, hI.i2, hI.i3, hI.i4, hI.i5, hI.i6, hI.i7, hI.i8, hI.i9, hI.i10, hI.i11, hI.i12, hI.i14, hI.i15⟩)
          clear hK hI hn hcl
          go_simp
          exact HK.out _ rfl
        · have HK := Lib.hid (fun v h => hK v W ⟨hI.hs, hI.hd, hI.h1, hI.h2, hI.h5, hI.h6, hI.h4, hI.h3, hI.r13, hI.i0, hI.i1, fun _ => h, hI.i3, hI.i4, hI.i5, hI.i6, hI.i7, hI.i8, hI.i9, hI.i10, hI.i11, hI.i12, hI.i14, hI.i15⟩)
          clear hK hI hn hcl
          go_simp
          exact HK.out _ rfl
        · have r2 := hI.i2 (hn 2 rfl)
          have z2 := BlockIs.of hI.hd 2 _ rfl
          simp only [r2] at hK ⊢
          have HK := Lib.hid (fun v h => hK v W ⟨hI.hs, hI.hd, hI.h1, hI.h2, hI.h5, hI.h6, hI.h4, hI.h3, hI.r13, hI.i0, hI.i1, hI.i2, fun _ => h, hI.i4, hI.i5, hI.i6, hI.i7, hI.i8, hI.i9, hI.i10, hI.i11, hI.i12, hI.i14, hI.i15⟩)
          clear hK hI hn hcl
          go_simp
          exact HK.out _ rfl
        · have r3 := hI.i3 (hn 3 rfl)
          simp only [r3] at hK ⊢
          have HK := Lib.hid (fun v h => hK v W ⟨hI.hs, hI.hd, hI.h1, hI.h2, hI.h5, hI.h6, hI.h4, hI.h3, hI.r13, hI.i0, hI.i1, hI.i2, hI.i3, fun _ => h, hI.i5, hI.i6, hI.i7, hI.i8, hI.i9, hI.i10, hI.i11, hI.i12, hI.i14, hI.i15⟩)
          clear hK hI hn hcl
          go_simp
          exact HK.out _ rfl
        · have r4 := hI.i4 (hn 4 rfl)
          simp only [r4] at hK ⊢
          have HK := Lib.hid (fun v h => hK v W ⟨hI.hs, hI.hd, hI.h1, hI.h2, hI.h5, hI.h6, hI.h4, hI.h3, hI.r13, hI.i0, hI.i1, hI.i2, hI.i3, hI.i4, fun _ => h, hI.i6, hI.i7, hI.i8, hI.i9, hI.i10, hI.i11, hI.i12, hI.i14, hI.i15⟩)
          clear hK hI hn hcl
          go_simp
          exact HK.out _ rfl
        · have r5 := hI.i5 (hn 5 rfl)
          have hl16 : L 16 = false := by cases h : L 16 with | false => rfl | true => exact absurd (hcl 16 _ rfl h 6 rfl) (by rw [hi]; decide)
          have h4 := hI.h4
          rw [if_neg (by rw [hl16]; decide)] at h4
          have z4 := BlockIs.of h4 4 _ rfl
          simp only [r5] at hK ⊢
          have HK := Lib.hid (fun v h => hK v W ⟨hI.hs, hI.hd, hI.h1, hI.h2, hI.h5, hI.h6, hI.h4, hI.h3, hI.r13, hI.i0, hI.i1, hI.i2, hI.i3, hI.i4, hI.i5, fun _ => h, hI.i7, hI.i8, hI.i9, hI.i10, hI.i11, hI.i12, hI.i14, hI.i15⟩)
          clear hK hI hn hcl h4 hl16 hi
          go_simp
          exact HK.out _ rfl
        · have HK := Lib.hid (fun v h => hK v W ⟨hI.hs, hI.hd, hI.h1, hI.h2, hI.h5, hI.h6, hI.h4, hI.h3, hI.r13, hI.i0, hI.i1, hI.i2, hI.i3, hI.i4, hI.i5, hI.i6, fun _ => h, hI.i8, hI.i9, hI.i10, hI.i11, hI.i12, hI.i14, hI.i15⟩)
          clear hK hI hn hcl
          go_simp
          exact HK.out _ rfl
        · have r7 := hI.i7 (hn 7 rfl)
          simp only [r7] at hK ⊢
          have HK := Lib.hid (fun v h => hK v W ⟨hI.hs, hI.hd, hI.h1, hI.h2, hI.h5, hI.h6, hI.h4, hI.h3, hI.r13, hI.i0, hI.i1, hI.i2, hI.i3, hI.i4, hI.i5, hI.i6, hI.i7, fun _ => h, hI.i9, hI.i10, hI.i11, hI.i12, hI.i14, hI.i15⟩)
          clear hK hI hn hcl
          go_simp
          exact HK.out _ (congrArg (Value.int .i64) HWK.out)
        · have HK := Lib.hid (fun v h => hK v W ⟨hI.hs, hI.hd, hI.h1, hI.h2, hI.h5, hI.h6, hI.h4, hI.h3, hI.r13, hI.i0, hI.i1, hI.i2, hI.i3, hI.i4, hI.i5, hI.i6, hI.i7, hI.i8, fun _ => h, hI.i10, hI.i11, hI.i12, hI.i14, hI.i15⟩)
          clear hK hI hn hcl
          go_simp
          exact HK.out _ rfl
        · have r9 := hI.i9 (hn 9 rfl)
          simp only [r9] at hK ⊢
          have HK := Lib.hid (fun v h => hK v W ⟨hI.hs, hI.hd, hI.h1, hI.h2, hI.h5, hI.h6, hI.h4, hI.h3, hI.r13, hI.i0, hI.i1, hI.i2, hI.i3, hI.i4, hI.i5, hI.i6, hI.i7, hI.i8, hI.i9, fun _ => h, hI.i11, hI.i12, hI.i14, hI.i15⟩)
          clear hK hI hn hcl
          go_simp
          exact HK.out _ (congrArg (Value.int .i64) HWK.out)
        · have r8 := hI.i8 (hn 8 rfl)
          have r10 := hI.i10 (hn 10 rfl)
          simp only [r8, r10] at hK ⊢
          have HK := Lib.hid (fun v h => hK v W ⟨hI.hs, hI.hd, hI.h1, hI.h2, hI.h5, hI.h6, hI.h4, hI.h3, hI.r13, hI.i0, hI.i1, hI.i2, hI.i3, hI.i4, hI.i5, hI.i6, hI.i7, hI.i8, hI.i9, hI.i10, fun _ => h, hI.i12, hI.i14, hI.i15⟩)
          clear hK hI hn hcl
          go_simp
          exact HK.out _ rfl
        · have r11 := hI.i11 (hn 11 rfl)
          have HK := Lib.hid hK
          have HI := Lib.hid hI
          have hlt : b' + 6 < W.heap.size := (Array.getElem?_eq_some_iff.1 hI.h6).1
          have HLT := Lib.hid hlt
          simp only [r11] at HK ⊢
          clear hK hI hn hcl hlt hi
          go_simp
          have kk := HI.out.grown (balloc W (.cells #[.int .i64 0, .int .i64 9, .int .i64 9, .int .i64 (1 + k), .int .i64 (1 + k), .int .i64 9] 48))
          exact HK.out _ _ ⟨kk.hs, kk.hd, kk.h1, kk.h2, kk.h5, kk.h6, kk.h4, kk.h3, kk.r13, kk.i0, kk.i1, kk.i2, kk.i3, kk.i4, kk.i5, kk.i6, kk.i7, kk.i8, kk.i9, kk.i10, kk.i11, fun _ => ⟨W.heap.size, rfl, blk_new _ _, by have := HLT.out; omega⟩, kk.i14, kk.i15⟩
        · have r6 := hI.i6 (hn 6 rfl)
          obtain ⟨g, r12, hg, hne⟩ := hI.i12 (hn 12 rfl)
          have h3 := hI.h3 hi
          have hl16 : L 16 = false := by cases h : L 16 with | false => rfl | true => exact absurd (hcl 16 _ rfl h 13 rfl) (by rw [hi]; decide)
          have hown : W.ownsRow b' 48 6 (.slice (some ⟨b' + 3, 0, none⟩) 1 1) 1 [.int .i64 1, .int .i64 5, .int .i64 5, .int .i64 3, .int .i64 3, .int .i64 0] := ⟨rfl, .inr ⟨b' + 3, 1, _, rfl, by omega, h3, by omega, by decide, rfl, rfl⟩⟩
          have hsz : b' ≤ W.heap.size := by have := (Array.getElem?_eq_some_iff.1 hI.h6).1; omega
          simp only [r6, r12] at hK ⊢
          refine wp_onto W (.tmp 96) (.tmp 102) 49 rfl b' 48 _ 6 48 Try.underlying49 cinfoTask rfl (by decide) _ 1 _ rfl hown 1 [.int .i64 0, .int .i64 9, .int .i64 9, .int .i64 (1 + k), .int .i64 (1 + k), .int .i64 9] (.inr ⟨⟨g, 0, none⟩, 1, rfl, fun j u hu => by rw [addr_add, Nat.zero_add]; exact BlockIs.of hg j u (by simpa using hu)⟩) rfl (by intro u hu; simp only [List.mem_cons, List.not_mem_nil, or_false] at hu; rcases hu with rfl | rfl | rfl | rfl | rfl | rfl <;> rfl) (by decide) (by omega) hsz ?_
          intro v' W' hown' hgr
          have hgr : W.grownBy W' (some (b' + 3)) := hgr
          have hkeep : ∀ q ob, q ≠ b' + 3 → W.heap[q]? = some ob → W'.heap[q]? = some ob := fun q ob hq ho => (hgr.block q (Array.getElem?_eq_some_iff.1 ho).1 (by intro e; injection e with e; exact hq e)).trans ho
          have hp := hI.hs.2.1
          have h4' := hkeep _ _ (by omega) hI.h4
          rw [if_neg (by rw [hl16]; decide)] at h4'
          refine hK v' W' ⟨⟨bput hI.hs.1 hgr (by omega) (Nat.le_refl _), ⟨hkeep _ _ (by omega) hp.h1, hkeep _ _ (by omega) hp.h2, hkeep _ _ (by omega) hp.h3, hkeep _ _ (by omega) hp.h4, hkeep _ _ (by omega) hp.h5, hkeep _ _ (by omega) hp.h6⟩, hkeep _ _ (by omega) hI.hs.2.2⟩, hkeep _ _ (by omega) hI.hd, hkeep _ _ (by omega) hI.h1, hkeep _ _ (by omega) hI.h2, hkeep _ _ (by omega) hI.h5, hkeep _ _ (by omega) hI.h6, ?_, fun q => by simp [updB] at q, fun _ => hown', hI.i0, hI.i1, hI.i2, hI.i3, hI.i4, hI.i5, hI.i6, hI.i7, hI.i8, hI.i9, hI.i10, hI.i11, fun q => ⟨g, r12, hkeep _ _ hne hg, hne⟩, hI.i14, hI.i15⟩
          show W'.heap[b' + 4]? = some (.cells #[.int .i64 1, .slice (some ⟨b' + 1, 0, none⟩) 1 1, .slice (some ⟨b' + 2, 0, none⟩) 2 2, .int .i64 0, if L 16 = true then v' else .slice (some ⟨b' + 3, 0, none⟩) 1 1, .slice none 0 0] 52 (0, 0))
          rw [if_neg (by rw [hl16]; decide)]
          exact h4'
        · have r1 := hI.i1 (hn 1 rfl)
          simp only [r1] at hK ⊢
          have HK := Lib.hid (fun v h => hK v W ⟨hI.hs, hI.hd, hI.h1, hI.h2, hI.h5, hI.h6, hI.h4, hI.h3, hI.r13, hI.i0, hI.i1, hI.i2, hI.i3, hI.i4, hI.i5, hI.i6, hI.i7, hI.i8, hI.i9, hI.i10, hI.i11, hI.i12, fun _ => h, hI.i15⟩)
          clear hK hI hn hcl
          go_simp
          exact HK.out _ rfl
        · have r14 := hI.i14 (hn 14 rfl)
          simp only [r14] at hK ⊢
          have HK := Lib.hid (fun v h => hK v W ⟨hI.hs, hI.hd, hI.h1, hI.h2, hI.h5, hI.h6, hI.h4, hI.h3, hI.r13, hI.i0, hI.i1, hI.i2, hI.i3, hI.i4, hI.i5, hI.i6, hI.i7, hI.i8, hI.i9, hI.i10, hI.i11, hI.i12, hI.i14, fun _ => h⟩)
          clear hK hI hn hcl
          go_simp
          exact HK.out _ rfl
        · have r15 := hI.i15 (hn 15 rfl)
          have r13 := hI.r13 (hn 13 rfl)
          obtain ⟨va, vc, h13⟩ := own_shape r13
          rw [h13] at r13
          have h4 := hI.h4
          rw [if_neg (by rw [hi]; decide)] at h4
          have z4 := BlockIs.of h4 4 _ rfl
          have ff := thaw h4 4
          have hgr := set_grown W (b' + 4) 4 (.slice va 2 vc)
          have hty : ∀ q, some (b' + 4) = some q → Typed W q 52 := fun q hq => by injection hq with hq; rw [← hq]; exact ⟨_, h4⟩
          have hset : ∀ q ob, q ≠ b' + 4 → W.heap[q]? = some ob → (W.setCell ⟨b' + 4, 4, none⟩ (.slice va 2 vc)).heap[q]? = some ob := fun q ob hq ho => set_at _ ho hq
          have hp := hI.hs.2.1
          have h4' := blk_set h4 4 (.slice va 2 vc)
          have HN : Hid (VaInv w b b' gc gd k (updB L 16) (upd vs 16 undef) (W.setCell ⟨b' + 4, 4, none⟩ (.slice va 2 vc))) := Lib.hid ⟨⟨bput hI.hs.1 hgr (by omega) (Nat.le_refl _), ⟨hset _ _ (by omega) hp.h1, hset _ _ (by omega) hp.h2, hset _ _ (by omega) hp.h3, hset _ _ (by omega) hp.h4, hset _ _ (by omega) hp.h5, hset _ _ (by omega) hp.h6⟩, hset _ _ (by omega) hI.hs.2.2⟩, hset _ _ (by omega) hI.hd, hset _ _ (by omega) hI.h1, hset _ _ (by omega) hI.h2, hset _ _ (by omega) hI.h5, hset _ _ (by omega) hI.h6, by (have e : (if updB L 16 16 = true then upd vs 16 undef 13 else .slice (some ⟨b' + 3, 0, none⟩) 1 1) = vs 13 := rfl); rw [e, h13]; exact h4', fun q => hset _ _ (by omega) (hI.h3 q), fun q => (by have h := own_apart r13 hgr hty (by decide); show World.ownsRow _ _ _ _ (vs 13) _ _; rw [h13]; exact h), hI.i0, hI.i1, hI.i2, hI.i3, hI.i4, hI.i5, hI.i6, hI.i7, hI.i8, hI.i9, hI.i10, hI.i11, fun q => (by obtain ⟨g, e1, e2, e3⟩ := hI.i12 q; exact ⟨g, e1, hset _ _ (by rintro rfl; rw [h4] at e2; injection e2 with e2; injection e2 with _ e2; revert e2; decide) e2, e3⟩), hI.i14, hI.i15⟩
          simp only [r15, h13] at hK ⊢
          have HK := Lib.hid hK
          clear hK hI hn hcl hi r13 h4 hgr hty hset hp h4' h13
          go_simp
          exact HK.out undef _ HN.out
      · intro vs W hI
        simp only [List.map, putAll, Act.put, List.setIfInBounds_toArray, List.set_cons_succ, List.set_cons_zero, Nat.reduceAdd]
        have r13 := hI.r13 (by simp)
        obtain ⟨va, vc, h13⟩ := own_shape r13
        have h4 := hI.h4
        rw [if_pos (by simp), h13] at h4
        rw [h13] at r13
        obtain ⟨g2, cap2, e, hg20, hg21, hg22⟩ := ownsRow_some r13 (by omega)
        injection e with e1 _ e3
        subst e1
        subst e3
        have hcl : ∀ jj (h : jj < 12), W.cell? ⟨g2, jj, none⟩ = _ := fun jj hjj => r13.cellAt jj hjj
        have ht3 : TasksV W (.slice (some ⟨g2, 0, none⟩) 2 vc) [plT3, ⟨0, 9, 9, 1 + k, 1 + k, 9⟩] := ⟨some ⟨g2, 0, none⟩, vc, rfl, by simp, hg21, hg22, fun _ => ⟨g2, 0, rfl, fun i hi => by
          have hi : i < 2 := hi
          match i, hi with
          | 0, _ => exact ⟨hcl 0 (by omega), hcl 1 (by omega), hcl 2 (by omega), hcl 3 (by omega), hcl 4 (by omega), hcl 5 (by omega)⟩
          | 1, _ => exact ⟨hcl 6 (by omega), hcl 7 (by omega), hcl 8 (by omega), hcl 9 (by omega), hcl 10 (by omega), hcl 11 (by omega)⟩⟩⟩
        have ht1 : TasksV W (.slice (some ⟨b' + 1, 0, none⟩) 1 1) [plT1] := slice1 (by decide) (task_of (BlockIs.of hI.h1) _ rfl rfl rfl rfl rfl rfl)
        have hk2 := BlockIs.of hI.h2
        have hc2 : CodeV W (.slice (some ⟨b' + 2, 0, none⟩) 2 2) [plI1, plI2] := slice2 (by decide) (show InstrAt W (b' + 2) 0 plI1 from ⟨hk2 0 _ rfl, hk2 1 _ rfl⟩) (show InstrAt W (b' + 2) 2 plI2 from ⟨hk2 2 _ rfl, hk2 3 _ rfl⟩)
        have hk5 := BlockIs.of hI.h5
        have hws : WindowsV W (plainWs b') [plW1, plW2] := slice2 (by decide) (show WindowAt W (b' + 5) 0 plW1 from ⟨hk5 0 _ rfl, hk5 1 _ rfl, hk5 2 _ rfl⟩) (show WindowAt W (b' + 5) 3 plW2 from ⟨hk5 3 _ rfl, hk5 4 _ rfl, hk5 5 _ rfl⟩)
        have hk6 := BlockIs.of hI.h6
        have hos : PortsV W (plainOs b') [plO] := slice1 (by decide) (show PortAt W (b' + 6) 0 plO from ⟨hk6 0 _ rfl, hk6 1 _ rfl, hk6 2 _ rfl, hk6 3 _ rfl⟩)
        have hk4 := BlockIs.of h4
        have hps : PartsV W (plainPs b') [⟨1, [plT1], [plI1, plI2]⟩, ⟨0, [plT3, ⟨0, 9, 9, 1 + k, 1 + k, 9⟩], []⟩] :=
          slice2 (by decide) (show PartAt W (b' + 4) 0 ⟨1, [plT1], [plI1, plI2]⟩ from ⟨hk4 0 _ rfl, _, _, hk4 1 _ rfl, hk4 2 _ rfl, ⟨ht1, hc2⟩⟩) (show PartAt W (b' + 4) 3 ⟨0, [plT3, ⟨0, 9, 9, 1 + k, 1 + k, 9⟩], []⟩ from ⟨hk4 3 _ rfl, _, _, hk4 4 _ rfl, hk4 5 _ rfl, ⟨ht3, slice0 _ _ _ _⟩⟩)
        have hkd := BlockIs.of hI.hd
        have ho : CfgP W gd (vaCfg 9 k) := ⟨_, _, _, hkd 0 _ rfl, hkd 1 _ rfl, hkd 2 _ rfl, hkd 3 _ rfl, hkd 4 _ rfl, ⟨hps, hws, hos⟩⟩
        have HV := Lib.hid (show VaSt w W gc gd b (vaCfg 9 k) from ⟨hI.hs.1, hI.hs.2.1, hI.hs.2.2, ho⟩)
        clear hI r13 h13 h4 hg20 hg21 hg22 hcl ht3 ht1 hk2 hc2 hk5 hws hk6 hos hk4 hps hkd ho y0 y1 y2 y3 y4
        go_wp2_with fail
        go_meet
        exact ⟨rfl, HV⟩
    · skip
      obtain ⟨we, hw_we⟩ : ∃ we, we = wd.alloc (.cells #[.int .i64 10, .int .i64 0, .int .i64 1, .int .i64 k] 54) := ⟨_, rfl⟩
      obtain ⟨ge, hg_ge⟩ : ∃ ge, ge = wd.heap.size := ⟨_, rfl⟩
      have hb_we : Below wd.heap.size wd we := by rw [hw_we]; exact balloc _ _
      have hk_ge : we.heap[ge]? = some (.cells #[.int .i64 10, .int .i64 0, .int .i64 1, .int .i64 k] 54 (0, 0)) := by rw [hw_we, hg_ge]; exact blk_new _ _
      have hs_we : we.heap.size = wd.heap.size + 1 := by rw [hw_we]; simp
      have hQ := HQ.out.1.keep hb_we
      have hD := keep_at HQ.out.2 hb_we
      have hS : Below w.heap.size w we ∧ PlainB we b plT1 plI1 plI2 plT3 (plC4 b) plW1 plW2 plO ∧ we.heap[gc]? = some (.cells #[.int .i64 10, .int .i64 2, plainPs b, plainWs b, plainOs b] 26 (0, 0)) := ⟨bthen HS.out.1 hb_we, HS.out.2.1.keep hb_we, keep_at HS.out.2.2 hb_we⟩
      have hG : b + 6 < b' ∧ b' + 6 < gc ∧ gc < gd ∧ gd < we.heap.size ∧ w.heap.size ≤ b := by have := HG.out; omega
      have hs := va_set hS hG (q := b' + 4) (j := 5) (v := .slice (some ⟨ge, 0, none⟩) 2 2) (by omega) (by omega)
      have hp := hQ.set4 5 (.slice (some ⟨ge, 0, none⟩) 2 2)
      have hd := set_at (q := b' + 4) (j := 5) (.slice (some ⟨ge, 0, none⟩) 2 2) hD (by omega)
      have hge : ge ≠ b' + 4 := by have := HG.out; omega
      have hi := set_at (q := b' + 4) (j := 5) (.slice (some ⟨ge, 0, none⟩) 2 2) hk_ge hge
      obtain ⟨wx, hwx⟩ : ∃ wx, wx = we.setCell ⟨b' + 4, 5, none⟩ (.slice (some ⟨ge, 0, none⟩) 2 2) := ⟨_, rfl⟩
      rw [← hwx] at hs hp hd hi
      have hci : CodeV wx (.slice (some ⟨ge, 0, none⟩) 2 2) [⟨10, 0⟩, ⟨1, k⟩] := slice2 (by decide) (show InstrAt wx ge 0 ⟨10, 0⟩ from ⟨BlockIs.of hi 0 _ rfl, BlockIs.of hi 1 _ rfl⟩) (show InstrAt wx ge 2 ⟨1, k⟩ from ⟨BlockIs.of hi 2 _ rfl, BlockIs.of hi 3 _ rfl⟩)
      have ho : CfgP wx gd (vaCfg 10 k) := ⟨_, _, _, BlockIs.of hd 0 _ rfl, BlockIs.of hd 1 _ rfl, BlockIs.of hd 2 _ rfl, BlockIs.of hd 3 _ rfl, BlockIs.of hd 4 _ rfl, ⟨hp.parts hp.tasks1 hp.code hp.tasks3 hci, hp.wins, hp.ports⟩⟩
      have HV := Lib.hid (show VaSt w wx gc gd b (vaCfg 10 k) from ⟨hs.1, hs.2.1, hs.2.2, ho⟩)
      have ox := BlockIs.of hQ.h4 5 _ rfl
      have ff := thaw hQ.h4 5
      have HGE := Lib.hid hg_ge
      clear hs ho fg hm1 hm2 hwl hci hp hd hi hQ hD hS hG hge hk_ge hb_we hs_we hg_ge
      go_wp2_with (first | (rw [← hw_we, ← HGE.out]; clear hw_we) | fail)
      (try rw [← hwx])
      go_meet
      exact ⟨rfl, HV⟩
  case rest =>
    obtain ⟨rfl, HV⟩ := hcut
    have hva := va_all ⟨wh, hwl⟩ ⟨k, by omega⟩
    have hv1 : alikeB plainCfg (vaCfg wh k) = vaWant wh := hva.1
    have hv2 : alikeB (vaCfg wh k) plainCfg = vaWant wh := hva.2
    have HVA := Lib.hid (And.intro hv1 hv2)
    obtain ⟨dp, dw, dq, hdo⟩ := HV.out.other
    obtain ⟨c1, c2, c3, c4, c5, c6, rfl, rfl, rfl⟩ := hdo.is.shape
    have HD := Lib.hid hdo
    have HX := Lib.hid (And.intro HV.out.below (And.intro HV.out.plain HV.out.box))
    clear hva hv1 hv2 hdo HV HQ HS HG hm1 hm2 hw1 hwl
    have y0 := BlockIs.of HX.out.2.2 0 _ rfl
    have y1 := BlockIs.of HX.out.2.2 1 _ rfl
    have y2 := BlockIs.of HX.out.2.2 2 _ rfl
    have y3 := BlockIs.of HX.out.2.2 3 _ rfl
    have y4 := BlockIs.of HX.out.2.2 4 _ rfl
    have z0 := HD.out.c0; have z1 := HD.out.c1; have z2 := HD.out.c2; have z3 := HD.out.c3; have z4 := HD.out.c4; unfold IntAt at z0 z1
    go_wp2_with fail
    refine (alike_any plainCfg (vaCfg wh k) _ _ _ ⟨_, _, _, rfl, HX.out.2.1.is 10 2⟩ ⟨_, _, _, rfl, HD.out.is⟩).mono ?_
    rw [HVA.out.1]
    rintro e wn ⟨rfl, hbn⟩
    replace HX := Lib.hid (And.intro (bthen HX.out.1 hbn) (And.intro (HX.out.2.1.keep hbn) (keep_at HX.out.2.2 hbn)))
    replace HD := Lib.hid (HD.out.ext (Ext.below hbn))
    clear hbn
    (try clear y0 y1 y2 y3 y4 z0 z1 z2 z3 z4)
    obtain ⟨wx, rfl⟩ : ∃ W : World, W = wn := ⟨_, rfl⟩
    have y0 := BlockIs.of HX.out.2.2 0 _ rfl
    have y1 := BlockIs.of HX.out.2.2 1 _ rfl
    have y2 := BlockIs.of HX.out.2.2 2 _ rfl
    have y3 := BlockIs.of HX.out.2.2 3 _ rfl
    have y4 := BlockIs.of HX.out.2.2 4 _ rfl
    have z0 := HD.out.c0; have z1 := HD.out.c1; have z2 := HD.out.c2; have z3 := HD.out.c3; have z4 := HD.out.c4; unfold IntAt at z0 z1
    go_wp2_with fail
    refine (alike_any (vaCfg wh k) plainCfg _ _ _ ⟨_, _, _, rfl, HD.out.is⟩ ⟨_, _, _, rfl, HX.out.2.1.is 10 2⟩).mono ?_
    rw [HVA.out.2]
    rintro e wn ⟨rfl, hbn⟩
    replace HX := Lib.hid (And.intro (bthen HX.out.1 hbn) (And.intro (HX.out.2.1.keep hbn) (keep_at HX.out.2.2 hbn)))
    replace HD := Lib.hid (HD.out.ext (Ext.below hbn))
    clear hbn
    (try clear y0 y1 y2 y3 y4 z0 z1 z2 z3 z4)
    obtain ⟨wx, rfl⟩ : ∃ W : World, W = wn := ⟨_, rfl⟩
    have y0 := BlockIs.of HX.out.2.2 0 _ rfl
    have y1 := BlockIs.of HX.out.2.2 1 _ rfl
    have y2 := BlockIs.of HX.out.2.2 2 _ rfl
    have y3 := BlockIs.of HX.out.2.2 3 _ rfl
    have y4 := BlockIs.of HX.out.2.2 4 _ rfl
    have z0 := HD.out.c0; have z1 := HD.out.c1; have z2 := HD.out.c2; have z3 := HD.out.c3; have z4 := HD.out.c4; unfold IntAt at z0 z1
    go_wp2_with fail
    refine (alike_any plainCfg plainCfg _ _ _ ⟨_, _, _, rfl, HX.out.2.1.is 10 2⟩ ⟨_, _, _, rfl, HX.out.2.1.is 10 2⟩).mono ?_
    rw [va_self]
    rintro e wn ⟨rfl, hbn⟩
    replace HX := Lib.hid (And.intro (bthen HX.out.1 hbn) (And.intro (HX.out.2.1.keep hbn) (keep_at HX.out.2.2 hbn)))
    replace HD := Lib.hid (HD.out.ext (Ext.below hbn))
    clear hbn
    (try clear y0 y1 y2 y3 y4 z0 z1 z2 z3 z4)
    obtain ⟨wx, rfl⟩ : ∃ W : World, W = wn := ⟨_, rfl⟩
    go_wp2_with fail
    refine (alike_any ⟨0, 0, [], [], []⟩ ⟨0, 0, [], [], []⟩ _ _ _ ⟨_, _, _, rfl, ⟨slice0 _ _ _ _, slice0 _ _ _ _, slice0 _ _ _ _⟩⟩ ⟨_, _, _, rfl, ⟨slice0 _ _ _ _, slice0 _ _ _ _, slice0 _ _ _ _⟩⟩).mono ?_
    rw [va_zero]
    rintro e wn ⟨rfl, hbn⟩
    replace HX := Lib.hid (And.intro (bthen HX.out.1 hbn) (And.intro (HX.out.2.1.keep hbn) (keep_at HX.out.2.2 hbn)))
    replace HD := Lib.hid (HD.out.ext (Ext.below hbn))
    clear hbn
    (try clear y0 y1 y2 y3 y4 z0 z1 z2 z3 z4)
    obtain ⟨wx, rfl⟩ : ∃ W : World, W = wn := ⟨_, rfl⟩
    go_wp2_with fail
    go_ret
    exact ⟨rfl, HX.out.1⟩
end Go.Proofs.Ytjhhncahlijohaa
