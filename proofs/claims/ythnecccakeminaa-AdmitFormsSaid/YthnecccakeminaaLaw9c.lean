/- The law AdmitForms: parts and tasks that are none; who is late, who has nothing. -/
import Derived.Test.YthnecccakeminaaLaw9a
set_option linter.unusedVariables false
set_option linter.unusedSimpArgs false
namespace Go.Proofs.Ythnecccakeminaa
open Go.RowKit

theorem plain_resp (p i : Int) : (((p == 0) = true ∧ (i == 0) = true) ∧ respSpec (plainG 10 5 1) p i = (9, 0)) ∨ (((p == 0) = true ∧ (i == 0) = false) ∧ respSpec (plainG 10 5 1) p i = (0, 900)) ∨ ((p == 0) = false ∧ respSpec (plainG 10 5 1) p i = (0, 900)) := by
  by_cases hp : p = 0
  · subst hp
    by_cases hi : i = 0
    · subst hi
      exact .inl ⟨⟨rfl, rfl⟩, by decide +kernel⟩
    · refine .inr (.inl ⟨⟨rfl, by simpa using hi⟩, respSpec_bad (Or.inr (Or.inr ?_))⟩)
      have : (tasksOf (plainG 10 5 1) 0).length = 1 := rfl
      omega
  · refine .inr (.inr ⟨by simpa using hp, respSpec_bad (Or.inr (Or.inl ?_))⟩)
    unfold levelOf
    have hl : ((plainG 10 5 1).parts.length : Int) = 2 := rfl
    by_cases h : p < 0 ∨ p ≥ (plainG 10 5 1).parts.length
    · rw [if_pos h]; decide
    · obtain rfl : p = 1 := by omega
      decide

set_option maxRecDepth 100000 in
set_option maxHeartbeats 3000000 in
theorem admitForms_any (p i : Int) (w : World) : Calls Try.prog 7 #[.int .i64 p, .int .i64 i] w fun e w' => e = .returned (.bool true) ∧ Below w.heap.size w w' := by
  have L1 : admitSpec (plainG 10 3 1) = 901 := by decide +kernel
  have L2 : admitSpec (plainG 10 5 0) = 902 := by decide +kernel
  have L3 : admitSpec ⟨10, 2, (plainG 10 5 0).parts, [], (plainG 10 5 0).ports⟩ = 901 := by decide +kernel
  have L := Lib.hid (And.intro L1 (And.intro L2 L3))
  have HR := Lib.hid (plain_resp p i)
  clear L1 L2 L3
  go_enter Try.func7, Try.ntmps7
  go_wp2_with fail
  refine (awake9_any w).mono ?_
  rintro e w0 ⟨rfl, hb0⟩
  have HB0 := Lib.hid hb0
  clear hb0
  go_wp2_with fail
  refine (plainAt9_any w0).mono ?_
  rintro e w1 ⟨b, rfl, -, hp, hb1⟩
  have HB1 := Lib.hid (bthen HB0.out hb1)
  have HP := Lib.hid hp
  clear hb1 hp HB0
  go_wp2_with fail
  refine (response_any (plainG 10 5 1) _ p i _ ⟨_, _, _, rfl, HP.out.is⟩).mono ?_
  rintro e w2 ⟨rfl, hb2⟩
  have HB2 := Lib.hid (bthen HB1.out hb2)
  clear hb2 HP HB1
  go_wp2_with fail
  refine (plainAt9_any w2).mono ?_
  rintro e w3 ⟨b1, rfl, hbw1, hp, hb3⟩
  have HB3 := Lib.hid (bthen HB2.out hb3)
  obtain ⟨wz, hwz⟩ : ∃ wz, wz = w3.alloc (.cells #[.int .i64 10, .int .i64 2, plainPs b1, plainWs b1, plainOs b1] 26) := ⟨_, rfl⟩
  obtain ⟨g, hg⟩ : ∃ g, g = w3.heap.size := ⟨_, rfl⟩
  have S1 : Hid (St w wz g b1 #[.int .i64 10, .int .i64 2, plainPs b1, plainWs b1, plainOs b1] 10 5 1) := by
    rw [hwz, hg]
    exact Lib.hid ⟨bthen HB3.out (balloc _ _), hp.keep (balloc _ _), blk_new _ _⟩
  have hbg : b1 + 6 < g := by have := hp.lt; omega
  have hws : w.heap.size ≤ b1 := by have := HB2.out.size; omega
  clear hp hb3 HB3 HB2 hbw1
  have z3 := S1.out.c.c3
  have r1 : wz.cell? ⟨b1 + 5, 1, none⟩ = some (.int .i64 5) := BlockIs.of S1.out.hP.h5 1 _ rfl
  have rf : wz.frozen? ⟨b1 + 5, 1, none⟩ = false := thaw S1.out.hP.h5 1
  obtain ⟨wy, hwy⟩ : ∃ wy, wy = wz.setCell ⟨b1 + 5, 1, none⟩ (.int .i64 3) := ⟨_, rfl⟩
  have S2 : Hid (St w wy g b1 #[.int .i64 10, .int .i64 2, plainPs b1, plainWs b1, plainOs b1] 10 3 1) := by
    rw [hwy]
    exact Lib.hid ⟨S1.out.hB.setCell (p := ⟨b1 + 5, 1, none⟩) (by simp; omega) _, S1.out.hP.setTo 3, set_at _ S1.out.hG (by omega)⟩
  have HC2 := Lib.hid S2.out.c
  have y0 := HC2.out.c0; have y1 := HC2.out.c1; have y2 := HC2.out.c2; have y3 := HC2.out.c3; have y4 := HC2.out.c4; unfold IntAt at y0 y1
  go_wp2_with (first | (rw [← hwz, ← hg]; clear hwz hg) | (rw [← hwy]; clear hwy z3 r1 rf) | fail)
  refine (admit_any (plainG 10 3 1) _ _ ⟨_, _, _, rfl, S2.out.hP.is⟩).mono ?_
  rw [L.out.1]
  rintro e w4 ⟨rfl, hb4⟩
  have HB4 := Lib.hid (bthen S2.out.hB hb4)
  clear hb4 S2 S1 HC2 y0 y1 y2 y3 y4 hbg
  go_wp2_with fail
  refine (plainAt9_any w4).mono ?_
  rintro e w5 ⟨b2, rfl, hbw2, hp, hb5⟩
  have HB5 := Lib.hid (bthen HB4.out hb5)
  obtain ⟨wx, hwx⟩ : ∃ wx, wx = w5.alloc (.cells #[.int .i64 10, .int .i64 2, plainPs b2, plainWs b2, plainOs b2] 26) := ⟨_, rfl⟩
  obtain ⟨q, hq⟩ : ∃ q, q = w5.heap.size := ⟨_, rfl⟩
  have S3 : Hid (St w wx q b2 #[.int .i64 10, .int .i64 2, plainPs b2, plainWs b2, plainOs b2] 10 5 1) := by
    rw [hwx, hq]
    exact Lib.hid ⟨bthen HB5.out (balloc _ _), hp.keep (balloc _ _), blk_new _ _⟩
  have hbq : b2 + 6 < q := by have := hp.lt; omega
  have hws2 : w.heap.size ≤ b2 := by have := HB4.out.size; omega
  clear hp hb5 HB5 HB4 hbw2
  have z3 := S3.out.c.c3
  have r1 : wx.cell? ⟨b2 + 5, 5, none⟩ = some (.int .i64 1) := BlockIs.of S3.out.hP.h5 5 _ rfl
  have rf : wx.frozen? ⟨b2 + 5, 5, none⟩ = false := thaw S3.out.hP.h5 5
  obtain ⟨wv, hwv⟩ : ∃ wv, wv = wx.setCell ⟨b2 + 5, 5, none⟩ (.int .i64 0) := ⟨_, rfl⟩
  have S4 : Hid (St w wv q b2 #[.int .i64 10, .int .i64 2, plainPs b2, plainWs b2, plainOs b2] 10 5 0) := by
    rw [hwv]
    exact Lib.hid ⟨S3.out.hB.setCell (p := ⟨b2 + 5, 5, none⟩) (by simp; omega) _, S3.out.hP.setP 0, set_at _ S3.out.hG (by omega)⟩
  have HC4 := Lib.hid S4.out.c
  have y0 := HC4.out.c0; have y1 := HC4.out.c1; have y2 := HC4.out.c2; have y3 := HC4.out.c3; have y4 := HC4.out.c4; unfold IntAt at y0 y1
  go_wp2_with (first | (rw [← hwx, ← hq]; clear hwx hq) | (rw [← hwv]; clear hwv z3 r1 rf) | fail)
  refine (admit_any (plainG 10 5 0) _ _ ⟨_, _, _, rfl, S4.out.hP.is⟩).mono ?_
  rw [L.out.2.1]
  rintro e w6 ⟨rfl, hb6⟩
  have S5 := Lib.hid (S4.out.step hb6)
  clear hb6 S4 S3 HC4 y0 y1 y2 y3 y4
  have z3 := S5.out.c.c3
  have zf : w6.frozen? ⟨q, 3, none⟩ = false := thaw S5.out.hG 3
  obtain ⟨we, hwe⟩ : ∃ we, we = w6.setCell ⟨q, 3, none⟩ (.slice none 0 0) := ⟨_, rfl⟩
  have SE : Hid (St w we q b2 #[.int .i64 10, .int .i64 2, plainPs b2, .slice none 0 0, plainOs b2] 10 5 0) := by
    rw [hwe]
    exact Lib.hid ⟨S5.out.hB.setCell (p := ⟨q, 3, none⟩) (by simp; omega) _, S5.out.hP.far q 3 _ (by omega), blk_set S5.out.hG 3 _⟩
  have x0 : we.cell? ⟨q, 0, none⟩ = some (.int .i64 10) := BlockIs.of SE.out.hG 0 _ rfl
  have x1 : we.cell? ⟨q, 1, none⟩ = some (.int .i64 2) := BlockIs.of SE.out.hG 1 _ rfl
  have x2 : we.cell? ⟨q, 2, none⟩ = some (plainPs b2) := BlockIs.of SE.out.hG 2 _ rfl
  have x3 : we.cell? ⟨q, 3, none⟩ = some (.slice none 0 0) := BlockIs.of SE.out.hG 3 _ rfl
  have x4 : we.cell? ⟨q, 4, none⟩ = some (plainOs b2) := BlockIs.of SE.out.hG 4 _ rfl
  go_wp2_with (first | (rw [← hwe]; clear hwe z3 zf) | fail)
  refine (admit_any ⟨10, 2, (plainG 10 5 0).parts, [], (plainG 10 5 0).ports⟩ _ _ ⟨_, _, _, rfl, ⟨SE.out.hP.is.parts, slice0 _ _ _ _, SE.out.hP.is.ports⟩⟩).mono ?_
  rw [L.out.2.2]
  rintro e w7 ⟨rfl, hb7⟩
  have HB7 := Lib.hid (bthen SE.out.hB hb7)
  clear hb7 S5 SE x0 x1 x2 x3 x4
  rcases HR.out with ⟨⟨h1, h2⟩, hr⟩ | ⟨⟨h1, h2⟩, hr⟩ | ⟨h1, hr⟩
  all_goals
    rw [hr]
    clear hr HR
    go_wp2_with (first | (go_at_call 13; refine (num_any _ _).mono ?_; rintro e w' ⟨rfl, rfl⟩) | fail)
    go_ret
    exact ⟨rfl, HB7.out⟩
end Go.Proofs.Ythnecccakeminaa
