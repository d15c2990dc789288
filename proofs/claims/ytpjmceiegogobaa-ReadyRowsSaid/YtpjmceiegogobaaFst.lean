/- ready.First and the reference's answer. -/
import Derived.Test.YtpjmceiegogobaaJobM
import Derived.Test.YtpjmceiegogobaaPutN
set_option linter.unusedVariables false
set_option linter.unusedSimpArgs false
namespace Go.Proofs.Ytpjmceiegogobaa
open Go.RowKit

def firstIs (js : List Job) : Bool := !(js.isEmpty) && jobsMay js
def firstJ (js : List Job) : Job := if firstIs js = true then js.getD 0 jz else jz
theorem firstJ_no {js : List Job} (h : firstIs js = false) : firstJ js = jz := by unfold firstJ; rw [h]; rfl
set_option maxRecDepth 100000 in
set_option maxHeartbeats 2000000 in
theorem first_any (v : Value) (js : List Job) (w : World) (hv : JobsV w v js) :
    Calls Try.prog 11 #[v] w fun e w' => e = .returned (.tuple #[jobV (firstJ js), .bool (firstIs js)]) ∧ Below w.heap.size w w' := by
  obtain ⟨a, cap, rfl, -⟩ := id hv
  have hb0 := balloc w (.cells #[.int .i64 0, .int .i64 0, .int .i64 0, .int .i64 0, .int .i64 0, .int .i64 0, .int .i64 0] 24)
  have HV := Lib.hid (hv.ext (Ext.below hb0))
  have HX := Lib.hid (blk_new w (.cells #[.int .i64 0, .int .i64 0, .int .i64 0, .int .i64 0, .int .i64 0, .int .i64 0, .int .i64 0] 24))
  have HB := Lib.hid hb0
  clear hv hb0
  go_enter Try.func11, Try.ntmps11
  by_cases h0 : js.length = 0
  · have HE := Lib.hid (show firstIs js = false by cases js with | nil => rfl | cons => simp at h0)
    have h0' : ((js.length : Int) == 0) = true := by simp [h0]
    clear h0
    go_wp2_with fail
    have x0 := BlockIs.of HX.out 0 _ rfl
    have x1 := BlockIs.of HX.out 1 _ rfl
    have x2 := BlockIs.of HX.out 2 _ rfl
    have x3 := BlockIs.of HX.out 3 _ rfl
    have x4 := BlockIs.of HX.out 4 _ rfl
    have x5 := BlockIs.of HX.out 5 _ rfl
    have x6 := BlockIs.of HX.out 6 _ rfl
    refine bodyPost_ret (v := .tuple #[jobV jz, .bool false]) (by simp [results, Try.results11, go_sem, x0, x1, x2, x3, x4, x5, x6, jz]) rfl ⟨?_, HB.out⟩
    rw [HE.out, firstJ_no HE.out]
  · have h0' : ((js.length : Int) == 0) = false := by rw [beq_eq_false_iff_ne]; omega
    have hlt : 0 < js.length := by omega
    have HF := Lib.hid (show firstIs js = jobsMay js by cases js with | nil => simp at h0 | cons => rfl)
    clear h0
    go_wp2_with fail
    refine (readyMay_any _ js _ HV.out).mono ?_
    by_cases hm : jobsMay js = true
    · rw [hm]
      rintro e w1 ⟨rfl, hb1⟩
      have HE := Lib.hid (HF.out.trans hm)
      have HB1 := Lib.hid (bthen HB.out hb1)
      obtain ⟨_, _, e', -, -, -, hc⟩ := HV.out.ext (Ext.below hb1)
      obtain ⟨b, off, rfl, hq⟩ := hc (by intro h; rw [h] at hlt; simp at hlt)
      injection e' with e' _ _
      subst e'
      obtain ⟨y0, y1, y2, y3, y4, y5, y6⟩ := hq 0 hlt
      unfold IntAt at y0 y1 y2 y3 y4 y5 y6
      simp only [Nat.zero_mul, Nat.add_zero] at y0 y1 y2 y3 y4 y5 y6
      have HX1 := Lib.hid (keep_at HX.out hb1)
      clear hq hc hb1 hm
      have hlt' : (0 : Int) < (js.length : Int) := by omega
      obtain ⟨bx, hbx⟩ : ∃ bx, bx = w.heap.size := ⟨_, rfl⟩
      rw [← hbx] at HX1 ⊢
      have HBX := Lib.hid hbx
      have hx := HX1.out
      clear hbx
      obtain ⟨w8, hw_w8⟩ : ∃ w8, w8 = put7 w1 bx (.int .i64 js[0].task) (.int .i64 js[0].seq) (.int .i64 js[0].prio) (.int .i64 js[0].release) (.int .i64 js[0].deadline) (.int .i64 js[0].demand) (.int .i64 js[0].used) := ⟨_, rfl⟩
      have hk_w8 := put7_at hx (.int .i64 js[0].task) (.int .i64 js[0].seq) (.int .i64 js[0].prio) (.int .i64 js[0].release) (.int .i64 js[0].deadline) (.int .i64 js[0].demand) (.int .i64 js[0].used)
      have hg_w8 := put7_grown w1 bx (.int .i64 js[0].task) (.int .i64 js[0].seq) (.int .i64 js[0].prio) (.int .i64 js[0].release) (.int .i64 js[0].deadline) (.int .i64 js[0].demand) (.int .i64 js[0].used)
      rw [← hw_w8] at hk_w8 hg_w8
      unfold put7 at hw_w8
      have o_w8_0 := BlockIs.of hx 0 _ rfl
      have o_w8_1 := BlockIs.of hx 1 _ rfl
      have o_w8_2 := BlockIs.of hx 2 _ rfl
      have o_w8_3 := BlockIs.of hx 3 _ rfl
      have o_w8_4 := BlockIs.of hx 4 _ rfl
      have o_w8_5 := BlockIs.of hx 5 _ rfl
      have o_w8_6 := BlockIs.of hx 6 _ rfl
      have f_w8 := thaw hx
      have e_w8_0 := BlockIs.of hk_w8 0 _ rfl
      have e_w8_1 := BlockIs.of hk_w8 1 _ rfl
      have e_w8_2 := BlockIs.of hk_w8 2 _ rfl
      have e_w8_3 := BlockIs.of hk_w8 3 _ rfl
      have e_w8_4 := BlockIs.of hk_w8 4 _ rfl
      have e_w8_5 := BlockIs.of hk_w8 5 _ rfl
      have e_w8_6 := BlockIs.of hk_w8 6 _ rfl
      have HB8 := Lib.hid (bput (HBX.out ▸ HB1.out) hg_w8 (Nat.le_refl _) (Nat.le_of_eq HBX.out))
      clear hk_w8 hg_w8 hx
      go_wp2_with fail
      rw [← hw_w8]
      clear hw_w8
      refine bodyPost_ret (v := .tuple #[jobV js[0], .bool true]) (by simp [results, Try.results11, go_sem, e_w8_0, e_w8_1, e_w8_2, e_w8_3, e_w8_4, e_w8_5, e_w8_6]) rfl ⟨?_, HBX.out ▸ HB8.out⟩
      have hj : firstJ js = js[0] := by unfold firstJ; rw [if_pos HE.out]; exact getD_at hlt
      rw [HE.out, hj]
    · have hm : jobsMay js = false := by simpa using hm
      rw [hm]
      rintro e w1 ⟨rfl, hb1⟩
      have HE := Lib.hid (HF.out.trans hm)
      have hx := keep_at HX.out hb1
      have HB1 := Lib.hid (bthen HB.out hb1)
      have HX1 := Lib.hid hx
      clear hb1 hm
      clear hx
      obtain ⟨bx, hbx⟩ : ∃ bx, bx = w.heap.size := ⟨_, rfl⟩
      rw [← hbx] at HX1 ⊢
      have HBX := Lib.hid hbx
      have hx := HX1.out
      clear hbx
      obtain ⟨w8, hw_w8⟩ : ∃ w8, w8 = put7 w1 bx (.int .i64 0) (.int .i64 0) (.int .i64 0) (.int .i64 0) (.int .i64 0) (.int .i64 0) (.int .i64 0) := ⟨_, rfl⟩
      have hk_w8 := put7_at hx (.int .i64 0) (.int .i64 0) (.int .i64 0) (.int .i64 0) (.int .i64 0) (.int .i64 0) (.int .i64 0)
      have hg_w8 := put7_grown w1 bx (.int .i64 0) (.int .i64 0) (.int .i64 0) (.int .i64 0) (.int .i64 0) (.int .i64 0) (.int .i64 0)
      rw [← hw_w8] at hk_w8 hg_w8
      unfold put7 at hw_w8
      have o_w8_0 := BlockIs.of hx 0 _ rfl
      have o_w8_1 := BlockIs.of hx 1 _ rfl
      have o_w8_2 := BlockIs.of hx 2 _ rfl
      have o_w8_3 := BlockIs.of hx 3 _ rfl
      have o_w8_4 := BlockIs.of hx 4 _ rfl
      have o_w8_5 := BlockIs.of hx 5 _ rfl
      have o_w8_6 := BlockIs.of hx 6 _ rfl
      have f_w8 := thaw hx
      have e_w8_0 := BlockIs.of hk_w8 0 _ rfl
      have e_w8_1 := BlockIs.of hk_w8 1 _ rfl
      have e_w8_2 := BlockIs.of hk_w8 2 _ rfl
      have e_w8_3 := BlockIs.of hk_w8 3 _ rfl
      have e_w8_4 := BlockIs.of hk_w8 4 _ rfl
      have e_w8_5 := BlockIs.of hk_w8 5 _ rfl
      have e_w8_6 := BlockIs.of hk_w8 6 _ rfl
      have HB8 := Lib.hid (bput (HBX.out ▸ HB1.out) hg_w8 (Nat.le_refl _) (Nat.le_of_eq HBX.out))
      clear hk_w8 hg_w8 hx
      go_wp2_with fail
      rw [← hw_w8]
      clear hw_w8
      refine bodyPost_ret (v := .tuple #[jobV jz, .bool false]) (by simp [results, Try.results11, go_sem, e_w8_0, e_w8_1, e_w8_2, e_w8_3, e_w8_4, e_w8_5, e_w8_6, jz]) rfl ⟨?_, HBX.out ▸ HB8.out⟩
      rw [HE.out, firstJ_no HE.out]
set_option maxRecDepth 100000 in
set_option maxHeartbeats 2000000 in
theorem refFirst_any (v : Value) (js : List Job) (w : World) (hv : JobsV w v js) :
    Calls Try.prog 12 #[v] w fun e w' => e = .returned (.tuple #[jobV (firstJ js), .bool (firstIs js)]) ∧ Below w.heap.size w w' := by
  obtain ⟨a, cap, rfl, -⟩ := id hv
  have hb0 := balloc w (.cells #[.int .i64 0, .int .i64 0, .int .i64 0, .int .i64 0, .int .i64 0, .int .i64 0, .int .i64 0] 24)
  have HV := Lib.hid (hv.ext (Ext.below hb0))
  have HX := Lib.hid (blk_new w (.cells #[.int .i64 0, .int .i64 0, .int .i64 0, .int .i64 0, .int .i64 0, .int .i64 0, .int .i64 0] 24))
  have HB := Lib.hid hb0
  clear hv hb0
  go_enter Try.func12, Try.ntmps12
  by_cases h0 : js.length = 0
  · have HE := Lib.hid (show firstIs js = false by cases js with | nil => rfl | cons => simp at h0)
    have h0' : ((js.length : Int) == 0) = true := by simp [h0]
    clear h0
    go_wp2_with fail
    have x0 := BlockIs.of HX.out 0 _ rfl
    have x1 := BlockIs.of HX.out 1 _ rfl
    have x2 := BlockIs.of HX.out 2 _ rfl
    have x3 := BlockIs.of HX.out 3 _ rfl
    have x4 := BlockIs.of HX.out 4 _ rfl
    have x5 := BlockIs.of HX.out 5 _ rfl
    have x6 := BlockIs.of HX.out 6 _ rfl
    refine bodyPost_ret (v := .tuple #[jobV jz, .bool false]) (by simp [results, Try.results12, go_sem, x0, x1, x2, x3, x4, x5, x6, jz]) rfl ⟨?_, HB.out⟩
    rw [HE.out, firstJ_no HE.out]
  · have h0' : ((js.length : Int) == 0) = false := by rw [beq_eq_false_iff_ne]; omega
    have hlt : 0 < js.length := by omega
    have HF := Lib.hid (show firstIs js = jobsMay js by cases js with | nil => simp at h0 | cons => rfl)
    clear h0
    go_wp2_with fail
    refine (refMay_any _ js _ HV.out).mono ?_
    by_cases hm : jobsMay js = true
    · rw [hm]
      rintro e w1 ⟨rfl, hb1⟩
      have HE := Lib.hid (HF.out.trans hm)
      have HB1 := Lib.hid (bthen HB.out hb1)
      obtain ⟨_, _, e', -, -, -, hc⟩ := HV.out.ext (Ext.below hb1)
      obtain ⟨b, off, rfl, hq⟩ := hc (by intro h; rw [h] at hlt; simp at hlt)
      injection e' with e' _ _
      subst e'
      obtain ⟨y0, y1, y2, y3, y4, y5, y6⟩ := hq 0 hlt
      unfold IntAt at y0 y1 y2 y3 y4 y5 y6
      simp only [Nat.zero_mul, Nat.add_zero] at y0 y1 y2 y3 y4 y5 y6
      have HX1 := Lib.hid (keep_at HX.out hb1)
      clear hq hc hb1 hm
      have hlt' : (0 : Int) < (js.length : Int) := by omega
      obtain ⟨bx, hbx⟩ : ∃ bx, bx = w.heap.size := ⟨_, rfl⟩
      rw [← hbx] at HX1 ⊢
      have HBX := Lib.hid hbx
      have hx := HX1.out
      clear hbx
      obtain ⟨w8, hw_w8⟩ : ∃ w8, w8 = put7 w1 bx (.int .i64 js[0].task) (.int .i64 js[0].seq) (.int .i64 js[0].prio) (.int .i64 js[0].release) (.int .i64 js[0].deadline) (.int .i64 js[0].demand) (.int .i64 js[0].used) := ⟨_, rfl⟩
      have hk_w8 := put7_at hx (.int .i64 js[0].task) (.int .i64 js[0].seq) (.int .i64 js[0].prio) (.int .i64 js[0].release) (.int .i64 js[0].deadline) (.int .i64 js[0].demand) (.int .i64 js[0].used)
      have hg_w8 := put7_grown w1 bx (.int .i64 js[0].task) (.int .i64 js[0].seq) (.int .i64 js[0].prio) (.int .i64 js[0].release) (.int .i64 js[0].deadline) (.int .i64 js[0].demand) (.int .i64 js[0].used)
      rw [← hw_w8] at hk_w8 hg_w8
      unfold put7 at hw_w8
      have o_w8_0 := BlockIs.of hx 0 _ rfl
      have o_w8_1 := BlockIs.of hx 1 _ rfl
      have o_w8_2 := BlockIs.of hx 2 _ rfl
      have o_w8_3 := BlockIs.of hx 3 _ rfl
      have o_w8_4 := BlockIs.of hx 4 _ rfl
      have o_w8_5 := BlockIs.of hx 5 _ rfl
      have o_w8_6 := BlockIs.of hx 6 _ rfl
      have f_w8 := thaw hx
      have e_w8_0 := BlockIs.of hk_w8 0 _ rfl
      have e_w8_1 := BlockIs.of hk_w8 1 _ rfl
      have e_w8_2 := BlockIs.of hk_w8 2 _ rfl
      have e_w8_3 := BlockIs.of hk_w8 3 _ rfl
      have e_w8_4 := BlockIs.of hk_w8 4 _ rfl
      have e_w8_5 := BlockIs.of hk_w8 5 _ rfl
      have e_w8_6 := BlockIs.of hk_w8 6 _ rfl
      have HB8 := Lib.hid (bput (HBX.out ▸ HB1.out) hg_w8 (Nat.le_refl _) (Nat.le_of_eq HBX.out))
      clear hk_w8 hg_w8 hx
      go_wp2_with fail
      rw [← hw_w8]
      clear hw_w8
      refine bodyPost_ret (v := .tuple #[jobV js[0], .bool true]) (by simp [results, Try.results12, go_sem, e_w8_0, e_w8_1, e_w8_2, e_w8_3, e_w8_4, e_w8_5, e_w8_6]) rfl ⟨?_, HBX.out ▸ HB8.out⟩
      have hj : firstJ js = js[0] := by unfold firstJ; rw [if_pos HE.out]; exact getD_at hlt
      rw [HE.out, hj]
    · have hm : jobsMay js = false := by simpa using hm
      rw [hm]
      rintro e w1 ⟨rfl, hb1⟩
      have HE := Lib.hid (HF.out.trans hm)
      have hx := keep_at HX.out hb1
      have HB1 := Lib.hid (bthen HB.out hb1)
      have HX1 := Lib.hid hx
      clear hb1 hm
      clear hx
      obtain ⟨bx, hbx⟩ : ∃ bx, bx = w.heap.size := ⟨_, rfl⟩
      rw [← hbx] at HX1 ⊢
      have HBX := Lib.hid hbx
      have hx := HX1.out
      clear hbx
      obtain ⟨w8, hw_w8⟩ : ∃ w8, w8 = put7 w1 bx (.int .i64 0) (.int .i64 0) (.int .i64 0) (.int .i64 0) (.int .i64 0) (.int .i64 0) (.int .i64 0) := ⟨_, rfl⟩
      have hk_w8 := put7_at hx (.int .i64 0) (.int .i64 0) (.int .i64 0) (.int .i64 0) (.int .i64 0) (.int .i64 0) (.int .i64 0)
      have hg_w8 := put7_grown w1 bx (.int .i64 0) (.int .i64 0) (.int .i64 0) (.int .i64 0) (.int .i64 0) (.int .i64 0) (.int .i64 0)
      rw [← hw_w8] at hk_w8 hg_w8
      unfold put7 at hw_w8
      have o_w8_0 := BlockIs.of hx 0 _ rfl
      have o_w8_1 := BlockIs.of hx 1 _ rfl
      have o_w8_2 := BlockIs.of hx 2 _ rfl
      have o_w8_3 := BlockIs.of hx 3 _ rfl
      have o_w8_4 := BlockIs.of hx 4 _ rfl
      have o_w8_5 := BlockIs.of hx 5 _ rfl
      have o_w8_6 := BlockIs.of hx 6 _ rfl
      have f_w8 := thaw hx
      have e_w8_0 := BlockIs.of hk_w8 0 _ rfl
      have e_w8_1 := BlockIs.of hk_w8 1 _ rfl
      have e_w8_2 := BlockIs.of hk_w8 2 _ rfl
      have e_w8_3 := BlockIs.of hk_w8 3 _ rfl
      have e_w8_4 := BlockIs.of hk_w8 4 _ rfl
      have e_w8_5 := BlockIs.of hk_w8 5 _ rfl
      have e_w8_6 := BlockIs.of hk_w8 6 _ rfl
      have HB8 := Lib.hid (bput (HBX.out ▸ HB1.out) hg_w8 (Nat.le_refl _) (Nat.le_of_eq HBX.out))
      clear hk_w8 hg_w8 hx
      go_wp2_with fail
      rw [← hw_w8]
      clear hw_w8
      refine bodyPost_ret (v := .tuple #[jobV jz, .bool false]) (by simp [results, Try.results12, go_sem, e_w8_0, e_w8_1, e_w8_2, e_w8_3, e_w8_4, e_w8_5, e_w8_6, jz]) rfl ⟨?_, HBX.out ▸ HB8.out⟩
      rw [HE.out, firstJ_no HE.out]
end Go.Proofs.Ytpjmceiegogobaa
