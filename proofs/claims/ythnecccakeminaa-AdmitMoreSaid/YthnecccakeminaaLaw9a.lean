/- What every law of chapter 9 begins with. -/
import Derived.Test.YthnecccakeminaaPlG
import Derived.Test.YthnecccakeminaaAdm5
import Derived.Test.YthnecccakeminaaRow
set_option linter.unusedVariables false
set_option linter.unusedSimpArgs false
namespace Go.Proofs.Ythnecccakeminaa
open Go.RowKit

set_option maxRecDepth 100000 in
set_option maxHeartbeats 400000 in
theorem num_any (x : Int) (w : World) : Calls Try.prog 13 #[.int .i64 x] w fun e w' => e = .returned (.int .i64 x) ∧ w' = w := by
  go_enter Try.func13, Try.ntmps13
  go_wp2_with fail
  go_ret
  exact ⟨rfl, rfl⟩

def zeroCfg : Config := ⟨0, 0, [], [], []⟩
theorem zero_v (w : World) : CfgV w (.agg #[.int .i64 0, .int .i64 0, .slice none 0 0, .slice none 0 0, .slice none 0 0]) zeroCfg :=
  ⟨_, _, _, rfl, ⟨slice0 _ _ _ _, slice0 _ _ _ _, slice0 _ _ _ _⟩⟩

set_option maxRecDepth 100000 in
set_option maxHeartbeats 3000000 in
theorem awake9_any (w : World) : Calls Try.prog 16 #[] w fun e w' => e = .returned (.bool true) ∧ Below w.heap.size w w' := by
  go_enter Try.func16, Try.ntmps16
  go_wp2_with fail
  refine (plainAt9_any w).mono ?_
  rintro e w1 ⟨b, rfl, hbw, hp, hb1⟩
  have L1 : respSpec (plainG 10 5 1) 0 0 = (9, 0) := by decide +kernel
  have L2 : admitSpec (plainG 10 5 1) = 0 := by decide +kernel
  have L3 : (respSpec (plainG 10 5 1) 1 0).2 = 900 := by decide +kernel
  have L4 : admitSpec (plainG 8 5 1) = 901 := by decide +kernel
  have L5 : admitSpec ⟨10, 2, (plainG 10 5 1).parts, [⟨0, 5, 0⟩], (plainG 10 5 1).ports⟩ = 902 := by decide +kernel
  have L6 : admitSpec zeroCfg = 501 := by decide +kernel
  have L := Lib.hid (And.intro L1 (And.intro L2 (And.intro L3 (And.intro L4 (And.intro L5 L6)))))
  clear L1 L2 L3 L4 L5 L6
  obtain ⟨wz, hwz⟩ : ∃ wz, wz = w1.alloc (.cells #[.int .i64 10, .int .i64 2, plainPs b, plainWs b, plainOs b] 26) := ⟨_, rfl⟩
  obtain ⟨g, hg⟩ : ∃ g, g = w1.heap.size := ⟨_, rfl⟩
  have S1 : Hid (St w wz g b #[.int .i64 10, .int .i64 2, plainPs b, plainWs b, plainOs b] 10 5 1) := by
    rw [hwz, hg]
    exact Lib.hid ⟨bthen hb1 (balloc _ _), hp.keep (balloc _ _), blk_new _ _⟩
  have hbg : b + 6 < g := by have := hp.lt; omega
  have hwg : w.heap.size ≤ g := by omega
  clear hp hb1
  have HC1 := Lib.hid S1.out.c
  have z0 := HC1.out.c0; have z1 := HC1.out.c1; have z2 := HC1.out.c2; have z3 := HC1.out.c3; have z4 := HC1.out.c4; unfold IntAt at z0 z1
  go_wp2_with (first | (rw [← hwz, ← hg]; clear hwz hg) | fail)
  refine (response_any (plainG 10 5 1) _ 0 0 _ ⟨_, _, _, rfl, S1.out.hP.is⟩).mono ?_
  rw [L.out.1]
  rintro e w2 ⟨rfl, hb2⟩
  have S2 := Lib.hid (S1.out.step hb2)
  clear hb2 S1 HC1 z0 z1 z2 z3 z4
  have HC2 := Lib.hid S2.out.c
  have z0 := HC2.out.c0; have z1 := HC2.out.c1; have z2 := HC2.out.c2; have z3 := HC2.out.c3; have z4 := HC2.out.c4; unfold IntAt at z0 z1
  go_wp2_with fail
  refine (admit_any (plainG 10 5 1) _ _ ⟨_, _, _, rfl, S2.out.hP.is⟩).mono ?_
  rw [L.out.2.1]
  rintro e w3 ⟨rfl, hb3⟩
  have S3 := Lib.hid (S2.out.step hb3)
  clear hb3 S2 HC2 z0 z1 z2 z3 z4
  have HC3 := Lib.hid S3.out.c
  have z0 := HC3.out.c0; have z1 := HC3.out.c1; have z2 := HC3.out.c2; have z3 := HC3.out.c3; have z4 := HC3.out.c4; unfold IntAt at z0 z1
  go_wp2_with fail
  refine (response_any (plainG 10 5 1) _ 1 0 _ ⟨_, _, _, rfl, S3.out.hP.is⟩).mono ?_
  rw [L.out.2.2.1]
  rintro e w4 ⟨rfl, hb4⟩
  have S4 := Lib.hid (S3.out.step hb4)
  clear hb4 S3 HC3 z0 z1 z2 z3 z4
  have HC4 := Lib.hid S4.out.c
  have z0 := HC4.out.c0; have z1 := HC4.out.c1; have z2 := HC4.out.c2; have z3 := HC4.out.c3; have z4 := HC4.out.c4; unfold IntAt at z0 z1
  have hne : g ≠ b + 1 := by omega
  have r1 : w4.cell? ⟨b + 4, 1, none⟩ = some (.slice (some ⟨b + 1, 0, none⟩) 1 1) := BlockIs.of S4.out.hP.h4 1 _ rfl
  have r2 : w4.cell? ⟨b + 1, 2, none⟩ = some (.int .i64 10) := BlockIs.of S4.out.hP.h1 2 _ rfl
  have rf : w4.frozen? ⟨b + 1, 2, none⟩ = false := thaw S4.out.hP.h1 2
  go_wp2_with fail
  have S5 : Hid (St w (w4.setCell ⟨b + 1, 2, none⟩ (.int .i64 8)) g b #[.int .i64 10, .int .i64 2, plainPs b, plainWs b, plainOs b] 8 5 1) :=
    Lib.hid ⟨S4.out.hB.setCell (p := ⟨b + 1, 2, none⟩) (by simp; omega) _, S4.out.hP.setD 8, set_at _ S4.out.hG (by omega)⟩
  obtain ⟨w5, hw5⟩ : ∃ w5, w5 = w4.setCell ⟨b + 1, 2, none⟩ (.int .i64 8) := ⟨_, rfl⟩
  rw [← hw5] at S5 ⊢
  clear hw5 r1 r2 rf z0 z1 z2 z3 z4 HC4 S4 hne
  refine (admit_any (plainG 8 5 1) _ _ ⟨_, _, _, rfl, S5.out.hP.is⟩).mono ?_
  rw [L.out.2.2.2.1]
  rintro e w6 ⟨rfl, hb6⟩
  have S6 := Lib.hid (S5.out.step hb6)
  clear hb6 S5
  go_wp2_with fail
  refine (plainAt9_any w6).mono ?_
  rintro e w7 ⟨b', rfl, hbw', hp', hb7⟩
  have S7 := Lib.hid (S6.out.step hb7)
  have HP7 := Lib.hid hp'
  have hgs : g < w6.heap.size := (Array.getElem?_eq_some_iff.1 S6.out.hG).1
  have hgb' : g ≤ b' := by omega
  clear hb7 hp' S6 hbw' hgs
  have HC7 := Lib.hid S7.out.c
  have z0 := HC7.out.c0; have z1 := HC7.out.c1; have z2 := HC7.out.c2; have z3 := HC7.out.c3; have z4 := HC7.out.c4; unfold IntAt at z0 z1
  have zf : ∀ k, w7.frozen? ⟨g, k, none⟩ = false := thaw S7.out.hG
  obtain ⟨wd, hwd⟩ : ∃ wd, wd = (((((w7.setCell ⟨g, 0, none⟩ (.int .i64 10)).setCell ⟨g, 1, none⟩ (.int .i64 2)).setCell ⟨g, 2, none⟩ (plainPs b')).setCell ⟨g, 3, none⟩ (plainWs b')).setCell ⟨g, 4, none⟩ (plainOs b')) := ⟨_, rfl⟩
  have SD : Hid (St w wd g b' #[.int .i64 10, .int .i64 2, plainPs b', plainWs b', plainOs b'] 10 5 1) := by
    rw [hwd]
    refine Lib.hid ⟨?_, ?_, ?_⟩
    · exact ((((S7.out.hB.setCell (p := ⟨g, 0, none⟩) (by simp; omega) _).setCell (p := ⟨g, 1, none⟩) (by simp; omega) _).setCell (p := ⟨g, 2, none⟩) (by simp; omega) _).setCell (p := ⟨g, 3, none⟩) (by simp; omega) _).setCell (p := ⟨g, 4, none⟩) (by simp; omega) _
    · exact ((((HP7.out.far g 0 _ (by omega)).far g 1 _ (by omega)).far g 2 _ (by omega)).far g 3 _ (by omega)).far g 4 _ (by omega)
    · exact blk_set (blk_set (blk_set (blk_set (blk_set S7.out.hG 0 _) 1 _) 2 _) 3 _) 4 _
  have y3 : wd.cell? ⟨g, 3, none⟩ = some (plainWs b') := SD.out.c.c3
  have yf : wd.frozen? ⟨g, 3, none⟩ = false := thaw SD.out.hG 3
  obtain ⟨we, hwe⟩ : ∃ we, we = wd.setCell ⟨g, 3, none⟩ (.slice (some ⟨b' + 5, 0, none⟩) 1 2) := ⟨_, rfl⟩
  have SE : Hid (St w we g b' #[.int .i64 10, .int .i64 2, plainPs b', .slice (some ⟨b' + 5, 0, none⟩) 1 2, plainOs b'] 10 5 1) := by
    rw [hwe]
    exact Lib.hid ⟨SD.out.hB.setCell (p := ⟨g, 3, none⟩) (by simp; omega) _, SD.out.hP.far g 3 _ (by omega), blk_set SD.out.hG 3 _⟩
  have x0 : we.cell? ⟨g, 0, none⟩ = some (.int .i64 10) := BlockIs.of SE.out.hG 0 _ rfl
  have x1 : we.cell? ⟨g, 1, none⟩ = some (.int .i64 2) := BlockIs.of SE.out.hG 1 _ rfl
  have x2 : we.cell? ⟨g, 2, none⟩ = some (plainPs b') := BlockIs.of SE.out.hG 2 _ rfl
  have x3 : we.cell? ⟨g, 3, none⟩ = some (.slice (some ⟨b' + 5, 0, none⟩) 1 2) := BlockIs.of SE.out.hG 3 _ rfl
  have x4 : we.cell? ⟨g, 4, none⟩ = some (plainOs b') := BlockIs.of SE.out.hG 4 _ rfl
  clear S7 HP7 HC7 SD
  go_wp2_with (first | (rw [← hwd]; clear hwd z0 z1 z2 z3 z4 zf) | (rw [← hwe]; clear hwe y3 yf) | fail)
  have hW : WindowsV we (.slice (some ⟨b' + 5, 0, none⟩) 1 2) [⟨0, 5, 0⟩] := SliceAt.take SE.out.hP.is.windows 1 (by decide)
  refine (admit_any ⟨10, 2, (plainG 10 5 1).parts, [⟨0, 5, 0⟩], (plainG 10 5 1).ports⟩ _ _ ⟨_, _, _, rfl, ⟨SE.out.hP.is.parts, hW, SE.out.hP.is.ports⟩⟩).mono ?_
  rw [L.out.2.2.2.2.1]
  rintro e w8 ⟨rfl, hb8⟩
  have HB8 := Lib.hid (bthen SE.out.hB hb8)
  clear hb8 SE hW x0 x1 x2 x3 x4
  go_wp2_with fail
  refine (admit_any zeroCfg _ _ (zero_v _)).mono ?_
  rw [L.out.2.2.2.2.2]
  rintro e w9 ⟨rfl, hb9⟩
  have HB9 := Lib.hid (bthen HB8.out hb9)
  clear hb9 HB8
  go_wp2_with (first | (go_at_call 13; refine (num_any _ _).mono ?_; rintro e w' ⟨rfl, rfl⟩) | fail)
  go_ret
  exact ⟨rfl, HB9.out⟩
end Go.Proofs.Ythnecccakeminaa
