/- view.Alike. -/
import Derived.Test.YtjhhncahlijohaaBare
import Derived.Test.YtjhhncahlijohaaSEq
set_option linter.unusedVariables false
set_option linter.unusedSimpArgs false
namespace Go.Proofs.Ytjhhncahlijohaa
open Go.RowKit

theorem part_eq (x y : Part) : decide (x = y) = (decide (x.level = y.level) && decide (x.tasks = y.tasks) && decide (x.code = y.code)) := by
  obtain ⟨a, b, c⟩ := x
  obtain ⟨a', b', c'⟩ := y
  simp [Bool.and_assoc, Bool.decide_and]
set_option maxRecDepth 100000 in
set_option maxHeartbeats 1000000 in
theorem same_any (x y : Part) (tv cv tv' cv' : Value) (w : World) (hx : PartIs w tv cv x) (hy : PartIs w tv' cv' y) :
    Calls Try.prog 18 #[.agg #[.int .i64 x.level, tv, cv], .agg #[.int .i64 y.level, tv', cv']] w fun e w' => e = .returned (.bool (decide (x = y))) ∧ Below w.heap.size w w' := by
  obtain ⟨ta, tk, rfl, -⟩ := id hx.tasks
  obtain ⟨ca, ck, rfl, -⟩ := id hx.code
  obtain ⟨ta', tk', rfl, -⟩ := id hy.tasks
  obtain ⟨ca', ck', rfl, -⟩ := id hy.code
  obtain ⟨wa, hw_wa⟩ : ∃ wa, wa = w.alloc (.cells #[.int .i64 x.level, .slice ta x.tasks.length tk, .slice ca x.code.length ck] 52) := ⟨_, rfl⟩
  obtain ⟨ga, hg_ga⟩ : ∃ ga, ga = w.heap.size := ⟨_, rfl⟩
  have hb_wa : Below w.heap.size w wa := by rw [hw_wa]; exact balloc _ _
  have hk_ga : wa.heap[ga]? = some (.cells #[.int .i64 x.level, .slice ta x.tasks.length tk, .slice ca x.code.length ck] 52 (0, 0)) := by rw [hw_wa, hg_ga]; exact blk_new _ _
  have hs_wa : wa.heap.size = w.heap.size + 1 := by rw [hw_wa]; simp
  obtain ⟨wb, hw_wb⟩ : ∃ wb, wb = wa.alloc (.cells #[.int .i64 y.level, .slice ta' y.tasks.length tk', .slice ca' y.code.length ck'] 52) := ⟨_, rfl⟩
  obtain ⟨gb, hg_gb⟩ : ∃ gb, gb = wa.heap.size := ⟨_, rfl⟩
  have hb_wb : Below wa.heap.size wa wb := by rw [hw_wb]; exact balloc _ _
  have hk_gb : wb.heap[gb]? = some (.cells #[.int .i64 y.level, .slice ta' y.tasks.length tk', .slice ca' y.code.length ck'] 52 (0, 0)) := by rw [hw_wb, hg_gb]; exact blk_new _ _
  have hs_wb : wb.heap.size = wa.heap.size + 1 := by rw [hw_wb]; simp
  have hka := keep_at hk_ga hb_wb
  have HB := Lib.hid (bthen hb_wa hb_wb)
  have HX := Lib.hid (hx.ext (Ext.below HB.out))
  have HY := Lib.hid (hy.ext (Ext.below HB.out))
  have y0 := BlockIs.of hka 0 _ rfl
  have y1 := BlockIs.of hka 1 _ rfl
  have y2 := BlockIs.of hka 2 _ rfl
  have z0 := BlockIs.of hk_gb 0 _ rfl
  have z1 := BlockIs.of hk_gb 1 _ rfl
  have z2 := BlockIs.of hk_gb 2 _ rfl
  have HKA := Lib.hid (And.intro hka hk_gb)
  clear hka hk_ga hk_gb hb_wa hb_wb hx hy
  rw [part_eq]
  obtain ⟨b1, hb1⟩ : ∃ b, decide (x.level = y.level) = b := ⟨_, rfl⟩
  obtain ⟨b2, hb2⟩ : ∃ b, decide (x.tasks = y.tasks) = b := ⟨_, rfl⟩
  obtain ⟨b3, hb3⟩ : ∃ b, decide (x.code = y.code) = b := ⟨_, rfl⟩
  have hl : (x.level == y.level) = b1 := by rw [← hb1]; rfl
  rw [hb1, hb2, hb3]
  have H2 := Lib.hid hb2
  have H3 := Lib.hid hb3
  clear hb1 hb2 hb3
  cases b1
  · go_enter Try.func18, Try.ntmps18
    go_wp2_with fail
    rw [← hw_wa, ← hw_wb]
    go_ret
    exact ⟨rfl, HB.out⟩
  · go_enter Try.func18, Try.ntmps18
    go_wp2_with fail
    rw [← hw_wa, ← hw_wb]
    (try rw [← hs_wa])
    (try rw [← hg_gb])
    (try rw [← hg_ga])
    clear hw_wa hw_wb hg_ga hg_gb hs_wa hs_wb
    refine (equalTask_any _ _ x.tasks y.tasks _ HX.out.tasks HY.out.tasks).mono ?_
    rw [H2.out]
    rintro e w1 ⟨rfl, hb1⟩
    have HB1 := Lib.hid (bthen HB.out hb1)
    have HX1 := Lib.hid (HX.out.ext (Ext.below hb1))
    have HY1 := Lib.hid (HY.out.ext (Ext.below hb1))
    have hka := keep_at HKA.out.1 hb1
    have hkb := keep_at HKA.out.2 hb1
    replace y2 := BlockIs.of hka 2 _ rfl
    replace z2 := BlockIs.of hkb 2 _ rfl
    clear hb1 hka hkb y0 y1 z0 z1
    cases b2
    · go_wp2_with fail
      go_ret
      exact ⟨rfl, HB1.out⟩
    · go_wp2_with fail
      refine (equalInstr_any _ _ x.code y.code _ HX1.out.code HY1.out.code).mono ?_
      rw [H3.out]
      rintro e w2 ⟨rfl, hb2⟩
      have HB2 := Lib.hid (bthen HB1.out hb2)
      clear hb2
      cases b3
      all_goals
        go_wp2_with fail
        go_ret
        exact ⟨rfl, HB2.out⟩
set_option maxRecDepth 100000 in
set_option maxHeartbeats 1000000 in
theorem equalPart_any (v v' : Value) (xs ys : List Part) (w : World) (hv : PartsV w v xs) (hv' : PartsV w v' ys) :
    Calls Try.prog 17 #[v, v', .func (.func 18) #[] #[]] w fun e w' => e = .returned (.bool (decide (xs = ys))) ∧ Below w.heap.size w w' := by
  obtain ⟨a, c, rfl, hv1, hv2, hv3, hv4⟩ := hv
  obtain ⟨a', c', rfl, hw1, hw2, hw3, hw4⟩ := hv'
  have HV := Lib.hid hv4
  have HW := Lib.hid hw4
  clear hv4 hw4
  have hl1 : xs.length ≤ 70368744175616 := by omega
  have hl2 : ys.length ≤ 70368744175616 := by omega
  by_cases hl : xs.length = ys.length
  · have HL := Lib.hid hl
    have e1 : ((xs.length : Int) != (ys.length : Int)) = false := by simp [hl]
    clear hl
    go_enter Try.func17, Try.ntmps17
    go_wp2_with fail
    go_loopw [17] (fun i wr => ∃ (k : Nat), k ≤ xs.length ∧ i = .int .i64 k ∧ Hid (∀ j (hj : j < xs.length), j < k → xs[j] = ys[j]'(HL.out ▸ hj)) ∧ Below w.heap.size w wr) (fun i _ => xs.length - (intOf i).toNat)
    case atStart => exact ⟨0, by omega, rfl, Lib.hid (fun j hj h => by omega), Below.refl _ _⟩
    case round =>
      obtain ⟨k, hk, rfl, HD, hB⟩ := hrel
      have HB := Lib.hid hB
      clear hB
      by_cases hlt : k < xs.length
      · have hlt' : k < ys.length := HL.out ▸ hlt
        obtain ⟨b, off, rfl, hcell⟩ := HV.out (by intro h; rw [h] at hlt; simp at hlt)
        obtain ⟨b', off', rfl, hcell'⟩ := HW.out (by intro h; rw [h] at hlt'; simp at hlt')
        obtain ⟨y0, tv, cv, y1, y2, hpx⟩ := PartAt.ext (Ext.below HB.out) (hcell k hlt)
        obtain ⟨z0, tv', cv', z1, z2, hpy⟩ := PartAt.ext (Ext.below HB.out) (hcell' k hlt')
        unfold IntAt at y0 z0
        obtain ⟨ta, tk, rfl, -⟩ := id hpx.tasks
        obtain ⟨ca, ck, rfl, -⟩ := id hpx.code
        obtain ⟨ta', tk', rfl, -⟩ := id hpy.tasks
        obtain ⟨ca', ck', rfl, -⟩ := id hpy.code
        obtain ⟨bq, hbq⟩ : ∃ bq, decide (xs[k] = ys[k]) = bq := ⟨_, rfl⟩
        have HP := Lib.hid (And.intro hpx (And.intro hpy hbq))
        clear hcell hcell' hpx hpy hbq
        obtain ⟨wa, hw_wa⟩ : ∃ wa, wa = wr.alloc (.cells #[.int .i64 xs[k].level, .slice ta xs[k].tasks.length tk, .slice ca xs[k].code.length ck] 52) := ⟨_, rfl⟩
        obtain ⟨ga, hg_ga⟩ : ∃ ga, ga = wr.heap.size := ⟨_, rfl⟩
        have hb_wa : Below wr.heap.size wr wa := by rw [hw_wa]; exact balloc _ _
        have hk_ga : wa.heap[ga]? = some (.cells #[.int .i64 xs[k].level, .slice ta xs[k].tasks.length tk, .slice ca xs[k].code.length ck] 52 (0, 0)) := by rw [hw_wa, hg_ga]; exact blk_new _ _
        have hs_wa : wa.heap.size = wr.heap.size + 1 := by rw [hw_wa]; simp
        obtain ⟨wb, hw_wb⟩ : ∃ wb, wb = wa.alloc (.cells #[.int .i64 ys[k].level, .slice ta' ys[k].tasks.length tk', .slice ca' ys[k].code.length ck'] 52) := ⟨_, rfl⟩
        obtain ⟨gb, hg_gb⟩ : ∃ gb, gb = wa.heap.size := ⟨_, rfl⟩
        have hb_wb : Below wa.heap.size wa wb := by rw [hw_wb]; exact balloc _ _
        have hk_gb : wb.heap[gb]? = some (.cells #[.int .i64 ys[k].level, .slice ta' ys[k].tasks.length tk', .slice ca' ys[k].code.length ck'] 52 (0, 0)) := by rw [hw_wb, hg_gb]; exact blk_new _ _
        have hs_wb : wb.heap.size = wa.heap.size + 1 := by rw [hw_wb]; simp
        have hka := keep_at hk_ga hb_wb
        have HAB := Lib.hid (bthen hb_wa hb_wb)
        replace z0 := Ext.below hb_wa _ _ z0
        replace z1 := Ext.below hb_wa _ _ z1
        replace z2 := Ext.below hb_wa _ _ z2
        have u0 := BlockIs.of hka 0 _ rfl
        have u1 := BlockIs.of hka 1 _ rfl
        have u2 := BlockIs.of hka 2 _ rfl
        have v0 := BlockIs.of hk_gb 0 _ rfl
        have v1 := BlockIs.of hk_gb 1 _ rfl
        have v2 := BlockIs.of hk_gb 2 _ rfl
        have HGA := Lib.hid hg_ga
        have HGB := Lib.hid hg_gb
        clear hka hk_ga hk_gb hb_wa hb_wb hs_wa hs_wb hg_gb hg_ga
        go_wp2_with (first | (rw [← hw_wa, ← HGA.out]; clear hw_wa) | (rw [← hw_wb, ← HGB.out]; clear hw_wb) | fail)
        refine (same_any xs[k] ys[k] _ _ _ _ _ (HP.out.1.ext (Ext.below HAB.out)) (HP.out.2.1.ext (Ext.below HAB.out))).mono ?_
        rw [HP.out.2.2]
        rintro e w1 ⟨rfl, hb1⟩
        have HB1 := Lib.hid (bthen HB.out (bthen HAB.out hb1))
        clear hb1 y0 y1 y2 z0 z1 z2 u0 u1 u2 v0 v1 v2
        cases bq
        · have HE := Lib.hid (show decide (xs = ys) = false by rw [decide_eq_false_iff_not, list_eq_iff xs ys HL.out]; exact fun h => (of_decide_eq_false HP.out.2.2) (h k hlt))
          go_wp2_with fail
          go_ret
          exact ⟨ret_bool HE.out.symm, HB1.out⟩
        · have HE := Lib.hid (of_decide_eq_true HP.out.2.2)
          go_wp2_with fail
          go_roundw
          case rel => exact ⟨k + 1, by omega, by go_num, Lib.hid (fun j hj h => by rcases Nat.lt_succ_iff_lt_or_eq.1 h with h | rfl; exact HD.out j hj h; exact HE.out), HB1.out⟩
          case measure => simp [intOf]; omega
      · go_wp2_with fail
        go_ret
        exact ⟨ret_bool (by rw [eq_comm, decide_eq_true_iff, list_eq_iff xs ys HL.out]; exact fun i h => HD.out i h (by omega)), HB.out⟩
  · have e1 : ((xs.length : Int) != (ys.length : Int)) = true := by simp; omega
    have HF := Lib.hid (show decide (xs = ys) = false by simp; rintro rfl; exact hl rfl)
    clear hl
    go_enter Try.func17, Try.ntmps17
    go_wp2_with fail
    go_ret
    exact ⟨ret_bool HF.out.symm, Below.refl _ _⟩
end Go.Proofs.Ytjhhncahlijohaa
