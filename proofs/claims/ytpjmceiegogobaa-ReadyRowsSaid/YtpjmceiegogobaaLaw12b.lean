/- Chapter 12's law Readys. -/
import Derived.Test.YtpjmceiegogobaaLaw12a
set_option linter.unusedVariables false
set_option linter.unusedSimpArgs false
namespace Go.Proofs.Ytpjmceiegogobaa
open Go.RowKit

def putR (js : List Job) (x : Job) : List Job := if putE js x = 0 then putL js x else []
theorem putR_row {W : World} {B : Nat} {v : Value} {js : List Job} {x : Job} (h0 : putE js x ≠ 0 → v = .slice none 0 0) (h1 : putE js x = 0 → JobRow W B v (putL js x)) : JobRow W B v (putR js x) := by
  unfold putR
  by_cases h : putE js x = 0
  · rw [if_pos h]; exact h1 h
  · rw [if_neg h, h0 h]; exact World.ownsRow_nil _ _ _ _
theorem jobsMay_small {js : List Job} (h : jobsMay js = true) : js.length ≤ 16 := ((jobsMay_iff js).1 h).2
theorem putR_len (js : List Job) (x : Job) : (putR js x).length ≤ 17 := by
  unfold putR
  by_cases h : putE js x = 0
  · rw [if_pos h]
    have hm : jobsMay js = true := by
      cases hm : jobsMay js
      · unfold putE at h; rw [if_pos (.inl hm)] at h; simp at h
      · rfl
    have := jobsMay_small hm
    have := pos_le js x
    unfold putL
    simp only [List.length_append, List.length_take, List.length_drop, List.length_cons, List.length_nil]
    omega
  · rw [if_neg h]; simp
theorem leftJ_len (js : List Job) (now : Int) : (leftJ js now).length ≤ 16 := by
  unfold leftJ
  split
  · rename_i h
    have h1 := jobsMay_small h
    have h2 := List.length_filter_le (leftP now) js
    omega
  · simp
theorem lateJ_len (js : List Job) (now : Int) : (lateJ js now).length ≤ 16 := by
  unfold lateJ
  split
  · rename_i h
    have h1 := jobsMay_small h
    have h2 := List.length_filter_le (lateP now) js
    omega
  · simp
theorem spoil_below {W W' : World} {B B0 : Nat} {v : Value} {js : List Job} (h : JobRow W B v js) (hg : W.grownBy W' v.ownBlock) (h0 : B0 ≤ B) (hB : B0 ≤ W.heap.size) : Below B0 W W' :=
  (Below.refl B0 W).grown hg hB (fun k hk => Nat.le_trans h0 (h.lt k hk).1)
set_option maxRecDepth 100000 in
set_option maxHeartbeats 8000000 in
theorem readys_any (js : List Job) (v : Value) (x : Job) (vx : Value) (now : Int) (w : World) (hv : JobsV w v js) (hx : vx = jobV x) :
    Calls Try.prog 3 #[v, vx, .int .i64 now] w fun e w' => e = .returned (.bool true) ∧ Below w.heap.size w w' := by
  subst hx
  obtain ⟨a, cap, rfl, hsm, -, -, -⟩ := id hv
  have HV := Lib.hid hv
  clear hv
  go_enter Try.func3, Try.ntmps3
  obtain ⟨wz, hw_wz⟩ : ∃ wz, wz = w.alloc (.cells #[.int .i64 x.task, .int .i64 x.seq, .int .i64 x.prio, .int .i64 x.release, .int .i64 x.deadline, .int .i64 x.demand, .int .i64 x.used] 24) := ⟨_, rfl⟩
  obtain ⟨bx, hg_bx⟩ : ∃ bx, bx = w.heap.size := ⟨_, rfl⟩
  have hb_wz : Below w.heap.size w wz := by rw [hw_wz]; exact balloc _ _
  have hk_bx : wz.heap[bx]? = some (.cells #[.int .i64 x.task, .int .i64 x.seq, .int .i64 x.prio, .int .i64 x.release, .int .i64 x.deadline, .int .i64 x.demand, .int .i64 x.used] 24 (0, 0)) := by rw [hw_wz, hg_bx]; exact blk_new _ _
  have hs_wz : wz.heap.size = w.heap.size + 1 := by rw [hw_wz]; simp
  have HXZ := Lib.hid (show JobAt wz bx 0 x from jobAt_blk hk_bx 0 rfl rfl rfl rfl rfl rfl rfl)
  have HBZ := Lib.hid hb_wz
  clear hk_bx hb_wz hs_wz
  go_wp2_with fail
  rw [← hw_wz, ← hg_bx]
  clear hw_wz hg_bx
  refine (lendJobs_any _ js _ (HV.out.ext (Ext.below HBZ.out)) hsm).mono ?_
  rintro e w1 ⟨vl, rfl, hl, hb⟩
  have HL1 := Lib.hid hl
  have HLJ1 := Lib.hid (hl.jobs hsm)
  have HX1 := Lib.hid (HXZ.out.ext (Ext.below hb))
  have HB1 := Lib.hid (bthen HBZ.out hb)
  clear hl hb
  obtain ⟨y0, y1, y2, y3, y4, y5, y6⟩ := HX1.out
  unfold IntAt at y0 y1 y2 y3 y4 y5 y6
  go_wp2_with fail
  refine (put_any _ js x _ HLJ1.out).mono ?_
  rintro e w2 ⟨va, rfl, h0, h1, hb⟩
  have HA2 := Lib.hid (putR_row h0 h1)
  have HC2 := Lib.hid hb
  have HB2 := Lib.hid (bthen HB1.out hb)
  have HX2 := Lib.hid (HX1.out.ext (Ext.below hb))
  clear h0 h1 hb y0 y1 y2 y3 y4 y5 y6
  obtain ⟨pe, hpe⟩ : ∃ pe, pe = putE js x := ⟨_, rfl⟩
  rw [← hpe]
  have HPE := Lib.hid hpe
  clear hpe
  obtain ⟨y0, y1, y2, y3, y4, y5, y6⟩ := HX2.out
  unfold IntAt at y0 y1 y2 y3 y4 y5 y6
  go_wp2_with fail
  refine (refPut_any _ js x _ (HV.out.ext (Ext.below HB2.out))).mono ?_
  rintro e w3 ⟨vb, rfl, h0, h1, hb⟩
  have HR3 := Lib.hid (putR_row h0 h1)
  have HC3 := Lib.hid (bthen HC2.out hb)
  have HD3 := Lib.hid hb
  have HB3 := Lib.hid (bthen HB2.out hb)
  clear h0 h1 hb y0 y1 y2 y3 y4 y5 y6
  rw [← HPE.out]
  go_wp2_with fail
  refine (first_any _ js _ (HLJ1.out.ext (Ext.below HC3.out))).mono ?_
  rintro e w4 ⟨rfl, hb⟩
  obtain ⟨fj, hfj⟩ : ∃ fj, fj = firstJ js := ⟨_, rfl⟩
  obtain ⟨fi, hfi⟩ : ∃ fi, fi = firstIs js := ⟨_, rfl⟩
  rw [← hfj, ← hfi]
  have HF := Lib.hid (And.intro hfj hfi)
  clear hfj hfi
  obtain ⟨w5, hw_w5⟩ : ∃ w5, w5 = w4.alloc (.cells #[.int .i64 fj.task, .int .i64 fj.seq, .int .i64 fj.prio, .int .i64 fj.release, .int .i64 fj.deadline, .int .i64 fj.demand, .int .i64 fj.used] 24) := ⟨_, rfl⟩
  obtain ⟨b1, hg_b1⟩ : ∃ b1, b1 = w4.heap.size := ⟨_, rfl⟩
  have hb_w5 : Below w4.heap.size w4 w5 := by rw [hw_w5]; exact balloc _ _
  have hk_b1 : w5.heap[b1]? = some (.cells #[.int .i64 fj.task, .int .i64 fj.seq, .int .i64 fj.prio, .int .i64 fj.release, .int .i64 fj.deadline, .int .i64 fj.demand, .int .i64 fj.used] 24 (0, 0)) := by rw [hw_w5, hg_b1]; exact blk_new _ _
  have hs_w5 : w5.heap.size = w4.heap.size + 1 := by rw [hw_w5]; simp
  have HF5 := Lib.hid (show JobAt w5 b1 0 fj from jobAt_blk hk_b1 0 rfl rfl rfl rfl rfl rfl rfl)
  have hb5 := bthen hb hb_w5
  have HC5 := Lib.hid (bthen HC3.out hb5)
  have HD5 := Lib.hid (bthen HD3.out hb5)
  have HB5 := Lib.hid (bthen HB3.out hb5)
  have HR5 := Lib.hid (show JobRow w5 w2.heap.size vb _ from Below.kept HR3.out hb5)
  clear hb hb5 hb_w5 hs_w5 hk_b1
  go_wp2_with fail
  rw [← hw_w5, ← hg_b1]
  clear hw_w5 hg_b1
  refine (refFirst_any _ js _ (HV.out.ext (Ext.below HB5.out))).mono ?_
  rintro e w6 ⟨rfl, hb⟩
  rw [← HF.out.1, ← HF.out.2]
  obtain ⟨w7, hw_w7⟩ : ∃ w7, w7 = w6.alloc (.cells #[.int .i64 fj.task, .int .i64 fj.seq, .int .i64 fj.prio, .int .i64 fj.release, .int .i64 fj.deadline, .int .i64 fj.demand, .int .i64 fj.used] 24) := ⟨_, rfl⟩
  obtain ⟨b2, hg_b2⟩ : ∃ b2, b2 = w6.heap.size := ⟨_, rfl⟩
  have hb_w7 : Below w6.heap.size w6 w7 := by rw [hw_w7]; exact balloc _ _
  have hk_b2 : w7.heap[b2]? = some (.cells #[.int .i64 fj.task, .int .i64 fj.seq, .int .i64 fj.prio, .int .i64 fj.release, .int .i64 fj.deadline, .int .i64 fj.demand, .int .i64 fj.used] 24 (0, 0)) := by rw [hw_w7, hg_b2]; exact blk_new _ _
  have hs_w7 : w7.heap.size = w6.heap.size + 1 := by rw [hw_w7]; simp
  have HG7 := Lib.hid (show JobAt w7 b2 0 fj from jobAt_blk hk_b2 0 rfl rfl rfl rfl rfl rfl rfl)
  have hb7 := bthen hb hb_w7
  have HF7 := Lib.hid (HF5.out.ext (Ext.below hb7))
  have HC7 := Lib.hid (bthen HC5.out hb7)
  have HD7 := Lib.hid (bthen HD5.out hb7)
  have HB7 := Lib.hid (bthen HB5.out hb7)
  have HR7 := Lib.hid (show JobRow w7 w2.heap.size vb _ from Below.kept HR5.out hb7)
  clear hb hb7 hb_w7 hs_w7 hk_b2
  go_wp2_with fail
  rw [← hw_w7, ← hg_b2]
  clear hw_w7 hg_b2
  refine (missed_any _ js now _ (HLJ1.out.ext (Ext.below HC7.out))).mono ?_
  rintro e w8 ⟨vg, vh, rfl, h0, h1, h2, hb⟩
  have HG8 := Lib.hid h0
  have HH8 := Lib.hid h1
  have HAP := Lib.hid h2
  have HC8 := Lib.hid (bthen HC7.out hb)
  have HD8 := Lib.hid (bthen HD7.out hb)
  have HB8 := Lib.hid (bthen HB7.out hb)
  have HF8 := Lib.hid (HF7.out.ext (Ext.below hb))
  have HK8 := Lib.hid (HG7.out.ext (Ext.below hb))
  have HR8 := Lib.hid (show JobRow w8 w2.heap.size vb _ from Below.kept HR7.out hb)
  clear h0 h1 h2 hb
  go_wp2_with fail
  refine (refMissed_any _ js now _ (HV.out.ext (Ext.below HB8.out))).mono ?_
  rintro e w9 ⟨vi, vk, rfl, h0, h1, -, hb⟩
  have HG9 := Lib.hid (show JobRow w9 w7.heap.size vg _ from Below.kept HG8.out hb)
  have HH9 := Lib.hid (show JobRow w9 w7.heap.size vh _ from Below.kept HH8.out hb)
  have HI9 := Lib.hid h0
  have HJ9 := Lib.hid h1
  have HC9 := Lib.hid (bthen HC8.out hb)
  have HD9 := Lib.hid (bthen HD8.out hb)
  have HB9 := Lib.hid (bthen HB8.out hb)
  have HF9 := Lib.hid (HF8.out.ext (Ext.below hb))
  have HK9 := Lib.hid (HK8.out.ext (Ext.below hb))
  have HR9 := Lib.hid (show JobRow w9 w2.heap.size vb _ from Below.kept HR8.out hb)
  have HA9 := Lib.hid (show JobRow w9 w1.heap.size va _ from Below.kept HA2.out HD9.out)
  clear h0 h1 hb
  have l1 := putR_len js x
  have l2 := leftJ_len js now
  have l3 := lateJ_len js now
  have LL := Lib.hid (And.intro l1 (And.intro l2 l3))
  clear l1 l2 l3
  go_wp2_with fail
  refine (sameJobs_any _ _ (putR js x) _ (HA9.out.jobs (by have := LL.out; omega)) (HR9.out.jobs (by have := LL.out; omega))).mono ?_
  rintro e w10 ⟨rfl, hb10⟩
  have HE10 := Lib.hid hb10
  obtain ⟨y0, y1, y2, y3, y4, y5, y6⟩ := HF9.out.ext (Ext.below hb10)
  obtain ⟨z0, z1, z2, z3, z4, z5, z6⟩ := HK9.out.ext (Ext.below hb10)
  unfold IntAt at y0 y1 y2 y3 y4 y5 y6 z0 z1 z2 z3 z4 z5 z6
  clear hb10
  go_wp2_with (first | (go_at_call 16; refine (num_any _ _).mono ?_; rintro e w' ⟨rfl, hw⟩; subst w') | fail)
  refine (sameJobs_any _ _ (leftJ js now) _ ((HG9.out.jobs (by have := LL.out; omega)).ext (Ext.below HE10.out)) ((HI9.out.jobs (by have := LL.out; omega)).ext (Ext.below HE10.out))).mono ?_
  rintro e w11 ⟨rfl, hb11⟩
  have HE11 := Lib.hid (bthen HE10.out hb11)
  clear hb11 y0 y1 y2 y3 y4 y5 y6 z0 z1 z2 z3 z4 z5 z6
  go_wp2_with fail
  refine (sameJobs_any _ _ (lateJ js now) _ ((HH9.out.jobs (by have := LL.out; omega)).ext (Ext.below HE11.out)) ((HJ9.out.jobs (by have := LL.out; omega)).ext (Ext.below HE11.out))).mono ?_
  rintro e w12 ⟨rfl, hb12⟩
  have HE12 := Lib.hid (bthen HE11.out hb12)
  have HA12 := Lib.hid (show JobRow w12 w1.heap.size va _ from Below.kept HA9.out HE12.out)
  have HG12 := Lib.hid (show JobRow w12 w7.heap.size vg _ from Below.kept HG9.out HE12.out)
  have HH12 := Lib.hid (show JobRow w12 w7.heap.size vh _ from Below.kept HH9.out HE12.out)
  have HC12 := Lib.hid (bthen HC9.out HE12.out)
  have HB12 := Lib.hid (bthen HB9.out HE12.out)
  clear hb12
  go_wp2_with fail
  refine (spoilJobs_any _ _ _ _ HA12.out (by have := LL.out; omega)).mono ?_
  rintro e w13 ⟨rfl, hg⟩
  have hlow : ∀ g, va.ownBlock = some g → g < w7.heap.size := fun g h => Nat.lt_of_lt_of_le (HA2.out.lt g h).2 HD7.out.size
  have HG13 := Lib.hid (show JobRow w13 w7.heap.size vg _ from own_two HG12.out (fun g h1 h2 => by have := hlow g h2; have := (HG12.out.lt g h1).1; omega) hg)
  have HH13 := Lib.hid (show JobRow w13 w7.heap.size vh _ from own_two HH12.out (fun g h1 h2 => by have := hlow g h2; have := (HH12.out.lt g h1).1; omega) hg)
  have HC13 := Lib.hid (HC12.out.trans (spoil_below HA12.out hg (Nat.le_refl _) HC12.out.size))
  clear hg hlow
  go_wp2_with fail
  refine (spoilJobs_any _ _ _ _ HG13.out (by have := LL.out; omega)).mono ?_
  rintro e w14 ⟨rfl, hg⟩
  have HH14 := Lib.hid (show JobRow w14 w7.heap.size vh _ from own_two HH13.out HAP.out.symm hg)
  have HC14 := Lib.hid (HC13.out.trans (spoil_below HG13.out hg HC7.out.size HC13.out.size))
  clear hg
  go_wp2_with fail
  refine (spoilJobs_any _ _ _ _ HH14.out (by have := LL.out; omega)).mono ?_
  rintro e w15 ⟨rfl, hg⟩
  have HC15 := Lib.hid (HC14.out.trans (spoil_below HH14.out hg HC7.out.size HC14.out.size))
  have HB15 := Lib.hid (bthen HB1.out HC15.out)
  clear hg
  go_wp2_with fail
  refine (readyMay_any _ js _ (HLJ1.out.ext (Ext.below HC15.out))).mono ?_
  rintro e w16 ⟨rfl, hb⟩
  obtain ⟨jm, hjm⟩ : ∃ jm, jm = jobsMay js := ⟨_, rfl⟩
  rw [← hjm]
  have HJM := Lib.hid hjm
  have HC16 := Lib.hid (bthen HC15.out hb)
  have HB16 := Lib.hid (bthen HB15.out hb)
  clear hb hjm
  go_wp2_with fail
  refine (refMay_any _ js _ (HV.out.ext (Ext.below HB16.out))).mono ?_
  rw [← HJM.out]
  rintro e w17 ⟨rfl, hb⟩
  have HC17 := Lib.hid (bthen HC16.out hb)
  have HB17 := Lib.hid (bthen HB16.out hb)
  clear hb
  go_wp2_with fail
  refine (keptJobs_any _ _ _ js _ (HL1.out.kept HC17.out) (HV.out.ext (Ext.below HB17.out)) hsm).mono ?_
  rintro e w18 ⟨rfl, hb⟩
  have HB18 := Lib.hid (bthen HB17.out hb)
  clear hb
  go_wp2_with fail
  refine (awake12 _).mono ?_
  rintro e w19 ⟨rfl, hb⟩
  have HB19 := Lib.hid (bthen HB18.out hb)
  clear hb
  go_wp2_with fail
  go_ret
  exact ⟨rfl, HB19.out⟩
end Go.Proofs.Ytpjmceiegogobaa
