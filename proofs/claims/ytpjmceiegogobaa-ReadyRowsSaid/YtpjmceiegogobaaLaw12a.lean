/- Chapter 12's laws: job, awake (printed by gen12a.py). -/
import Derived.Test.YtpjmceiegogobaaLend
import Derived.Test.YtpjmceiegogobaaFst
import Derived.Test.YtpjmceiegogobaaMis
set_option linter.unusedVariables false
set_option linter.unusedSimpArgs false
namespace Go.Proofs.Ytpjmceiegogobaa
open Go.RowKit

theorem num_any (x : Int) (w : World) : Calls Try.prog 16 #[.int .i64 x] w fun e w' => e = .returned (.int .i64 x) ∧ w' = w := by
  go_enter Try.func16, Try.ntmps16
  go_wp2_with fail
  go_ret
  exact ⟨rfl, rfl⟩
def jobK (p r t : Int) : Job := ⟨t, 0, p, r, wrap64 (r + 9), 5, 0⟩
set_option maxRecDepth 100000 in
set_option maxHeartbeats 1000000 in
theorem jobK_any (p r t : Int) (w : World) : Calls Try.prog 22 #[.int .i64 p, .int .i64 r, .int .i64 t] w fun e w' => e = .returned (jobV (jobK p r t)) ∧ Below w.heap.size w w' := by
  go_enter Try.func22, Try.ntmps22
  go_wp2_with fail
  have hx := blk_new w (.cells #[.int .i64 t, .int .i64 0, .int .i64 p, .int .i64 r, .int .i64 (wrap64 (r + 9)), .int .i64 5, .int .i64 0] 24)
  have x0 := BlockIs.of hx 0 _ rfl
  have x1 := BlockIs.of hx 1 _ rfl
  have x2 := BlockIs.of hx 2 _ rfl
  have x3 := BlockIs.of hx 3 _ rfl
  have x4 := BlockIs.of hx 4 _ rfl
  have x5 := BlockIs.of hx 5 _ rfl
  have x6 := BlockIs.of hx 6 _ rfl
  refine bodyPost_ret (v := jobV (jobK p r t)) (by simp [results, Try.results22, go_sem, x0, x1, x2, x3, x4, x5, x6, jobK]) rfl ⟨rfl, balloc _ _⟩
theorem slice3 {α : Type} {P : World → Nat → Nat → α → Prop} {k B : Nat} {w : World} {b : Nat} {x y z : α} (hB : B ≤ 100) (h0 : P w b 0 x) (h1 : P w b k y) (h2 : P w b (2 * k) z) : SliceAt P k B w (.slice (some ⟨b, 0, none⟩) 3 3) [x, y, z] := by
  refine ⟨_, 3, rfl, by simp; omega, by simp, by simp [maxLen], fun _ => ⟨b, 0, rfl, fun i hi => ?_⟩⟩
  match i, hi with
  | 0, _ => simpa using h0
  | 1, _ => simpa using h1
  | 2, _ => simpa using h2
theorem jobAt_blk {w : World} {g : Nat} {cs : Array Value} {t : TypeId} {fr : Nat × Nat} {x : Job} (h : w.heap[g]? = some (.cells cs t fr)) (o : Nat) (h0 : cs[o]? = some (.int .i64 x.task)) (h1 : cs[o + 1]? = some (.int .i64 x.seq)) (h2 : cs[o + 2]? = some (.int .i64 x.prio)) (h3 : cs[o + 3]? = some (.int .i64 x.release)) (h4 : cs[o + 4]? = some (.int .i64 x.deadline)) (h5 : cs[o + 5]? = some (.int .i64 x.demand)) (h6 : cs[o + 6]? = some (.int .i64 x.used)) : JobAt w g o x :=
  ⟨BlockIs.of h _ _ h0, BlockIs.of h _ _ h1, BlockIs.of h _ _ h2, BlockIs.of h _ _ h3, BlockIs.of h _ _ h4, BlockIs.of h _ _ h5, BlockIs.of h _ _ h6⟩
abbrev J1 : Job := ⟨0, 0, 1, 5, 14, 5, 0⟩
abbrev J2 : Job := ⟨1, 0, 3, 2, 11, 5, 0⟩
abbrev J3 : Job := ⟨2, 0, 1, 5, 14, 5, 0⟩
theorem K1 : jobK 1 5 0 = J1 := by unfold jobK; rw [show wrap64 (5 + 9) = 14 by decide +kernel]
theorem K2 : jobK 3 2 1 = J2 := by unfold jobK; rw [show wrap64 (2 + 9) = 11 by decide +kernel]
theorem K3 : jobK 1 5 2 = J3 := by unfold jobK; rw [show wrap64 (5 + 9) = 14 by decide +kernel]
set_option maxRecDepth 100000 in
set_option maxHeartbeats 8000000 in
theorem awake12 (w : World) : Calls Try.prog 21 #[] w fun e w' => e = .returned (.bool true) ∧ Below w.heap.size w w' := by
  go_enter Try.func21, Try.ntmps21
  go_wp2_with fail
  refine (jobK_any 1 5 0 _).mono ?_
  rintro e w1 ⟨rfl, hb1⟩
  rw [K1]
  have HB1 := Lib.hid hb1
  clear hb1
  go_wp2_with fail
  refine (jobK_any 3 2 1 _).mono ?_
  rintro e w2 ⟨rfl, hb2⟩
  rw [K2]
  have HB2 := Lib.hid (bthen HB1.out hb2)
  clear hb2
  obtain ⟨w3, hw_w3⟩ : ∃ w3, w3 = w2.alloc (.cells #[.int .i64 0, .int .i64 0, .int .i64 1, .int .i64 5, .int .i64 14, .int .i64 5, .int .i64 0, .int .i64 1, .int .i64 0, .int .i64 3, .int .i64 2, .int .i64 11, .int .i64 5, .int .i64 0] 24) := ⟨_, rfl⟩
  obtain ⟨bj, hg_bj⟩ : ∃ bj, bj = w2.heap.size := ⟨_, rfl⟩
  have hb_w3 : Below w2.heap.size w2 w3 := by rw [hw_w3]; exact balloc _ _
  have hk_bj : w3.heap[bj]? = some (.cells #[.int .i64 0, .int .i64 0, .int .i64 1, .int .i64 5, .int .i64 14, .int .i64 5, .int .i64 0, .int .i64 1, .int .i64 0, .int .i64 3, .int .i64 2, .int .i64 11, .int .i64 5, .int .i64 0] 24 (0, 0)) := by rw [hw_w3, hg_bj]; exact blk_new _ _
  have hs_w3 : w3.heap.size = w2.heap.size + 1 := by rw [hw_w3]; simp
  have HK := Lib.hid hk_bj
  have hj1 : JobAt w3 bj 0 J1 := jobAt_blk hk_bj 0 rfl rfl rfl rfl rfl rfl rfl
  have hj2 : JobAt w3 bj 7 J2 := jobAt_blk hk_bj 7 rfl rfl rfl rfl rfl rfl rfl
  have HJ3 := Lib.hid (show JobsV w3 (.slice (some ⟨bj, 0, none⟩) 2 2) [J1, J2] from slice2 (by decide) hj1 hj2)
  have HB3 := Lib.hid (bthen HB2.out hb_w3)
  clear hj1 hj2 hk_bj hb_w3 hs_w3
  go_wp2_with fail
  rw [← hw_w3, ← hg_bj]
  clear hw_w3 hg_bj
  refine (jobK_any 1 5 2 _).mono ?_
  rintro e w4 ⟨rfl, hb4⟩
  rw [K3]
  have HB4 := Lib.hid (bthen HB3.out hb4)
  have HJ4 := Lib.hid (HJ3.out.ext (Ext.below hb4))
  have HC4 := Lib.hid hb4
  clear hb4
  go_wp2_with fail
  refine (put_any _ [J1, J2] J3 _ HJ4.out).mono ?_
  rw [show putE [J1, J2] J3 = 0 by decide, show putL [J1, J2] J3 = [J1, J3, J2] from rfl]
  rintro e w5 ⟨va, rfl, -, hr, hb5⟩
  have HA5 := Lib.hid (hr rfl)
  have HB5 := Lib.hid (bthen HB4.out hb5)
  have HC5 := Lib.hid (bthen HC4.out hb5)
  have HJ5 := Lib.hid (HJ4.out.ext (Ext.below hb5))
  clear hb5 hr
  go_wp2_with fail
  refine (jobK_any 3 2 1 _).mono ?_
  rintro e w6 ⟨rfl, hb6⟩
  rw [K2]
  have HA6 := Lib.hid (show JobRow w6 w4.heap.size va _ from Below.kept HA5.out hb6)
  have HB6 := Lib.hid (bthen HB5.out hb6)
  have HC6 := Lib.hid (bthen HC5.out hb6)
  have HJ6 := Lib.hid (HJ5.out.ext (Ext.below hb6))
  clear hb6
  go_wp2_with fail
  refine (put_any _ [J1, J2] J2 _ HJ6.out).mono ?_
  rw [show putE [J1, J2] J2 = 1200 by decide]
  rintro e w7 ⟨vz, rfl, hz, -, hb7⟩
  obtain rfl := hz (by decide)
  have HA7 := Lib.hid (show JobRow w7 w4.heap.size va _ from Below.kept HA6.out hb7)
  have HB7 := Lib.hid (bthen HB6.out hb7)
  have HC7 := Lib.hid (bthen HC6.out hb7)
  have HJ7 := Lib.hid (HJ6.out.ext (Ext.below hb7))
  clear hb7 hz
  go_wp2_with fail
  refine (first_any _ [J1, J2] _ HJ7.out).mono ?_
  rw [show firstIs [J1, J2] = true by decide, show firstJ [J1, J2] = J1 by unfold firstJ; rw [show firstIs [J1, J2] = true by decide]; rfl]
  rintro e w8 ⟨rfl, hb8⟩
  obtain ⟨w9, hw_w9⟩ : ∃ w9, w9 = w8.alloc (.cells #[.int .i64 0, .int .i64 0, .int .i64 1, .int .i64 5, .int .i64 14, .int .i64 5, .int .i64 0] 24) := ⟨_, rfl⟩
  obtain ⟨bf, hg_bf⟩ : ∃ bf, bf = w8.heap.size := ⟨_, rfl⟩
  have hb_w9 : Below w8.heap.size w8 w9 := by rw [hw_w9]; exact balloc _ _
  have hk_bf : w9.heap[bf]? = some (.cells #[.int .i64 0, .int .i64 0, .int .i64 1, .int .i64 5, .int .i64 14, .int .i64 5, .int .i64 0] 24 (0, 0)) := by rw [hw_w9, hg_bf]; exact blk_new _ _
  have hs_w9 : w9.heap.size = w8.heap.size + 1 := by rw [hw_w9]; simp
  have HF9 := Lib.hid (show JobAt w9 bf 0 J1 from jobAt_blk hk_bf 0 rfl rfl rfl rfl rfl rfl rfl)
  have hb9 := bthen hb8 hb_w9
  have HA9 := Lib.hid (show JobRow w9 w4.heap.size va _ from Below.kept HA7.out hb9)
  have HB9 := Lib.hid (bthen HB7.out hb9)
  have HC9 := Lib.hid (bthen HC7.out hb9)
  have HJ9 := Lib.hid (HJ7.out.ext (Ext.below hb9))
  clear hb8 hb9 hb_w9 hk_bf hs_w9
  go_wp2_with fail
  rw [← hw_w9, ← hg_bf]
  clear hw_w9 hg_bf
  refine (missed_any _ [J1, J2] 11 _ HJ9.out).mono ?_
  rw [show leftJ [J1, J2] 11 = [J1] from rfl, show lateJ [J1, J2] 11 = [J2] from rfl]
  rintro e w10 ⟨vl, vm, rfl, hl, hm, -, hb10⟩
  have HL10 := Lib.hid hl
  have HM10 := Lib.hid hm
  have HA10 := Lib.hid (show JobRow w10 w4.heap.size va _ from Below.kept HA9.out hb10)
  have HF10 := Lib.hid (HF9.out.ext (Ext.below hb10))
  have HB10 := Lib.hid (bthen HB9.out hb10)
  have HC10 := Lib.hid (bthen HC9.out hb10)
  have HJ10 := Lib.hid (HJ9.out.ext (Ext.below hb10))
  clear hb10 hl hm
  go_wp2_with fail
  refine (first_any _ [] _ (slice0 JobAt 7 56 _)).mono ?_
  rw [show firstIs [] = false by rfl, show jobV (firstJ []) = .agg #[.int .i64 0, .int .i64 0, .int .i64 0, .int .i64 0, .int .i64 0, .int .i64 0, .int .i64 0] from rfl]
  rintro e w11 ⟨rfl, hb11⟩
  obtain ⟨w12, hw12⟩ : ∃ w12, w12 = w11.alloc (.cells #[.int .i64 0, .int .i64 0, .int .i64 0, .int .i64 0, .int .i64 0, .int .i64 0, .int .i64 0] 24) := ⟨_, rfl⟩
  have hb12 := bthen hb11 (balloc w11 (.cells #[.int .i64 0, .int .i64 0, .int .i64 0, .int .i64 0, .int .i64 0, .int .i64 0, .int .i64 0] 24))
  rw [← hw12] at hb12
  have HL := Lib.hid (JobRow.jobs (show JobRow w12 _ vl [J1] from Below.kept HL10.out hb12) (by decide))
  have HM := Lib.hid (JobRow.jobs (show JobRow w12 _ vm [J2] from Below.kept HM10.out hb12) (by decide))
  have HA := Lib.hid (JobRow.jobs (show JobRow w12 _ va [J1, J3, J2] from Below.kept HA10.out hb12) (by decide))
  have HF := Lib.hid (HF10.out.ext (Ext.below hb12))
  have HB12 := Lib.hid (bthen HB10.out hb12)
  have hk := keep_at HK.out (bthen HC10.out hb12)
  have HJV := Lib.hid (HJ10.out.ext (Ext.below hb12))
  have HJ1 := Lib.hid (show JobAt w12 bj 0 J1 from jobAt_blk hk 0 rfl rfl rfl rfl rfl rfl rfl)
  have HJV1 := Lib.hid (jobs_take HJV.out (p := 1) (by decide))
  have HJV2 := Lib.hid (jobs_drop HJV.out (p := 1) (by decide))
  clear hb11 hb12 hk
  obtain ⟨n0, hn0⟩ : ∃ n0, n0 = w11.heap.size := ⟨_, rfl⟩
  go_wp2_with fail
  rw [← hw12, ← hn0]
  clear hw12 hn0 HB1 HB2 HB3 HB4 HB5 HB6 HB7 HB9 HB10 HC4 HC5 HC6 HC7 HC9 HC10 HJ3 HJ4 HJ5 HJ6 HJ7 HJ9 HJ10 HA5 HA6 HA7 HA9 HA10 HL10 HM10 HF9 HF10 HK
  refine region_v rfl (by kernel_rfl) (fun (i : Nat) (v : Value) (W : World) => match i with | 0 => v = va | 1 => v = jobV J1 | 2 => v = jobV J3 | 3 => v = jobV J2 | 4 => JobsV W v [J1, J3, J2] | 5 => v = .bool true | 6 => v = .bool true | 7 => v = .int .i64 0 | 8 => v = .int .i64 0 | 9 => v = .bool true | 10 => v = .bool true | 11 => v = .bool true | 12 => v = .int .i64 1200 | 13 => v = .int .i64 1200 | 14 => v = .bool true | 15 => v = .bool true | 16 => v = .bool true | 17 => v = .bool true | 18 => v = .bool true | 19 => v = .bool true | 20 => v = jobV J1 | 21 => v = .slice (some ⟨bj, 0, none⟩) 2 2 | 22 => v = .pointer (some ⟨bj, 0, none⟩) | 23 => v = jobV J1 | 24 => v = .bool true | 25 => v = .bool true | 26 => v = .bool true | 27 => v = .bool false | 28 => v = .bool true | 29 => v = .bool true | 30 => v = .bool true | 31 => v = vl | 32 => v = .slice (some ⟨bj, 0, none⟩) 2 2 | 33 => v = .slice (some ⟨bj, 0, none⟩) 1 2 | 34 => v = .bool true | 35 => v = .bool true | 36 => v = .bool true | 37 => v = vm | 38 => v = .slice (some ⟨bj, 0, none⟩) 2 2 | 39 => v = .slice (some ⟨bj, 7, none⟩) 1 1 | 40 => v = .bool true | 41 => v = .bool true | 42 => v = .bool true | 43 => v = .slice (some ⟨bj, 0, none⟩) 2 2 | 44 => v = .bool true | 45 => v = .bool true | 46 => v = .bool true | _ => True) ?_ ?_ ?_
  · intro i v W W' hb h
    (try dsimp only at h ⊢)
    split at h <;> first | exact h | exact JobsV.ext (Ext.below hb) h | trivial
  · simp (config := { maxSteps := 4000000 }) only [List.map, putAll, Act.put, VE, List.setIfInBounds_toArray, List.set_cons_succ, List.set_cons_zero, Nat.reduceAdd]
    refine ⟨?_, ?_, ?_, ?_, ?_, ?_, ?_, ?_, ?_, ?_, ?_, ?_, ?_, ?_, ?_, ?_, ?_, ?_, ?_, ?_, ?_, ?_, ?_, ?_, ?_, ?_, ?_, ?_, ?_, ?_, ?_, ?_, ?_, ?_, ?_, ?_, ?_, ?_, ?_, ?_, ?_, ?_, ?_, ?_, ?_, ?_, ?_, trivial⟩
    all_goals intro vs W hB hr KK hK
    · rw [if_pos (by simp [Region.wanted])]
      have HK := Lib.hid hK
      clear hK hr
      go_simp
      exact HK.out _ W (Below.refl _ _) rfl
    · rw [if_pos (by simp [Region.wanted])]
      have HK := Lib.hid hK
      have HB := Lib.hid hB
      clear hK hr hB
      go_simp
      refine (jobK_any 1 5 0 _).mono ?_
      rintro e w5 ⟨rfl, hb5⟩
      rw [K1]
      exact HK.out _ w5 hb5 rfl
    · rw [if_pos (by simp [Region.wanted])]
      have HK := Lib.hid hK
      have HB := Lib.hid hB
      clear hK hr hB
      go_simp
      refine (jobK_any 1 5 2 _).mono ?_
      rintro e w5 ⟨rfl, hb5⟩
      rw [K3]
      exact HK.out _ w5 hb5 rfl
    · rw [if_pos (by simp [Region.wanted])]
      have HK := Lib.hid hK
      have HB := Lib.hid hB
      clear hK hr hB
      go_simp
      refine (jobK_any 3 2 1 _).mono ?_
      rintro e w5 ⟨rfl, hb5⟩
      rw [K2]
      exact HK.out _ w5 hb5 rfl
    · have r1 : vs 1 = jobV J1 := hr 1 rfl
      have r2 : vs 2 = jobV J3 := hr 2 rfl
      have r3 : vs 3 = jobV J2 := hr 3 rfl
      rw [if_pos (by simp [Region.wanted])]
      simp only [r1, r2, r3] at hK ⊢
      have HK := Lib.hid hK
      have HB := Lib.hid hB
      clear hK hr hB
      go_simp
      exact HK.out _ _ (balloc _ _) (slice3 (by decide) (jobAt_blk (blk_new _ _) 0 rfl rfl rfl rfl rfl rfl rfl) (jobAt_blk (blk_new _ _) 7 rfl rfl rfl rfl rfl rfl rfl) (jobAt_blk (blk_new _ _) 14 rfl rfl rfl rfl rfl rfl rfl))
    · have r0 : vs 0 = va := hr 0 rfl
      rw [if_pos (by simp [Region.wanted])]
      have hq : JobsV W (vs 4) [J1, J3, J2] := hr 4 rfl
      have HQ := Lib.hid hq
      clear hq
      simp only [r0] at hK ⊢
      have HK := Lib.hid hK
      have HB := Lib.hid hB
      clear hK hr hB
      go_simp
      refine (sameJobs_any _ _ [J1, J3, J2] _ (HA.out.ext (Ext.below HB.out)) (HQ.out)).mono ?_
      rintro e w5 ⟨rfl, hb5⟩
      exact HK.out _ w5 hb5 rfl
    · have r5 : vs 5 = .bool true := hr 5 rfl
      rw [if_pos (by simp [Region.wanted])]
      simp only [r5] at hK ⊢
      have HK := Lib.hid hK
      clear hK hr
      go_simp
      exact HK.out _ W (Below.refl _ _) rfl
    · have r6 : vs 6 = .bool true := hr 6 rfl
      rw [if_pos (by simp [Region.wanted, yielded, r6])]
      simp only [r6] at hK ⊢
      have HK := Lib.hid hK
      clear hK hr
      go_simp
      exact HK.out _ W (Below.refl _ _) rfl
    · have r6 : vs 6 = .bool true := hr 6 rfl
      have r7 : vs 7 = .int .i64 0 := hr 7 rfl
      rw [if_pos (by simp [Region.wanted, yielded, r6])]
      simp only [r6, r7] at hK ⊢
      have HK := Lib.hid hK
      have HB := Lib.hid hB
      clear hK hr hB
      go_simp
      refine (num_any _ _).mono ?_
      rintro e w5 ⟨rfl, rfl⟩
      exact HK.out _ _ (Below.refl _ _) rfl
    · have r6 : vs 6 = .bool true := hr 6 rfl
      have r8 : vs 8 = .int .i64 0 := hr 8 rfl
      rw [if_pos (by simp [Region.wanted, yielded, r6])]
      simp only [r6, r8] at hK ⊢
      have HK := Lib.hid hK
      clear hK hr
      go_simp
      exact HK.out _ W (Below.refl _ _) rfl
    · have r6 : vs 6 = .bool true := hr 6 rfl
      have r9 : vs 9 = .bool true := hr 9 rfl
      rw [if_pos (by simp [Region.wanted])]
      simp only [r6, r9] at hK ⊢
      have HK := Lib.hid hK
      clear hK hr
      go_simp
      exact HK.out _ W (Below.refl _ _) rfl
    · have r10 : vs 10 = .bool true := hr 10 rfl
      rw [if_pos (by simp [Region.wanted])]
      simp only [r10] at hK ⊢
      have HK := Lib.hid hK
      clear hK hr
      go_simp
      exact HK.out _ W (Below.refl _ _) rfl
    · have r11 : vs 11 = .bool true := hr 11 rfl
      rw [if_pos (by simp [Region.wanted, yielded, r11])]
      simp only [r11] at hK ⊢
      have HK := Lib.hid hK
      clear hK hr
      go_simp
      exact HK.out _ W (Below.refl _ _) rfl
    · have r11 : vs 11 = .bool true := hr 11 rfl
      have r12 : vs 12 = .int .i64 1200 := hr 12 rfl
      rw [if_pos (by simp [Region.wanted, yielded, r11])]
      simp only [r11, r12] at hK ⊢
      have HK := Lib.hid hK
      have HB := Lib.hid hB
      clear hK hr hB
      go_simp
      refine (num_any _ _).mono ?_
      rintro e w5 ⟨rfl, rfl⟩
      exact HK.out _ _ (Below.refl _ _) rfl
    · have r11 : vs 11 = .bool true := hr 11 rfl
      have r13 : vs 13 = .int .i64 1200 := hr 13 rfl
      rw [if_pos (by simp [Region.wanted, yielded, r11])]
      simp only [r11, r13] at hK ⊢
      have HK := Lib.hid hK
      clear hK hr
      go_simp
      exact HK.out _ W (Below.refl _ _) rfl
    · have r11 : vs 11 = .bool true := hr 11 rfl
      have r14 : vs 14 = .bool true := hr 14 rfl
      rw [if_pos (by simp [Region.wanted])]
      simp only [r11, r14] at hK ⊢
      have HK := Lib.hid hK
      clear hK hr
      go_simp
      exact HK.out _ W (Below.refl _ _) rfl
    · have r15 : vs 15 = .bool true := hr 15 rfl
      rw [if_pos (by simp [Region.wanted])]
      simp only [r15] at hK ⊢
      have HK := Lib.hid hK
      clear hK hr
      go_simp
      exact HK.out _ W (Below.refl _ _) rfl
    · have r16 : vs 16 = .bool true := hr 16 rfl
      rw [if_pos (by simp [Region.wanted, yielded, r16])]
      simp only [r16] at hK ⊢
      have HK := Lib.hid hK
      clear hK hr
      go_simp
      exact HK.out _ W (Below.refl _ _) rfl
    · have r16 : vs 16 = .bool true := hr 16 rfl
      have r17 : vs 17 = .bool true := hr 17 rfl
      rw [if_pos (by simp [Region.wanted])]
      simp only [r16, r17] at hK ⊢
      have HK := Lib.hid hK
      clear hK hr
      go_simp
      exact HK.out _ W (Below.refl _ _) rfl
    · have r18 : vs 18 = .bool true := hr 18 rfl
      rw [if_pos (by simp [Region.wanted])]
      simp only [r18] at hK ⊢
      have HK := Lib.hid hK
      clear hK hr
      go_simp
      exact HK.out _ W (Below.refl _ _) rfl
    · have r19 : vs 19 = .bool true := hr 19 rfl
      rw [if_pos (by simp [Region.wanted, yielded, r19])]
      obtain ⟨x0, x1, x2, x3, x4, x5, x6⟩ := HF.out.ext (Ext.below hB)
      unfold IntAt at x0 x1 x2 x3 x4 x5 x6
      simp only [r19] at hK ⊢
      have HK := Lib.hid hK
      clear hK hr
      go_simp
      exact HK.out _ W (Below.refl _ _) rfl
    · have r19 : vs 19 = .bool true := hr 19 rfl
      rw [if_pos (by simp [Region.wanted, yielded, r19])]
      simp only [r19] at hK ⊢
      have HK := Lib.hid hK
      clear hK hr
      go_simp
      exact HK.out _ W (Below.refl _ _) rfl
    · have r19 : vs 19 = .bool true := hr 19 rfl
      have r21 : vs 21 = .slice (some ⟨bj, 0, none⟩) 2 2 := hr 21 rfl
      rw [if_pos (by simp [Region.wanted, yielded, r19])]
      simp only [r19, r21] at hK ⊢
      have HK := Lib.hid hK
      clear hK hr
      go_simp
      exact HK.out _ W (Below.refl _ _) rfl
    · have r19 : vs 19 = .bool true := hr 19 rfl
      have r22 : vs 22 = .pointer (some ⟨bj, 0, none⟩) := hr 22 rfl
      rw [if_pos (by simp [Region.wanted, yielded, r19])]
      obtain ⟨y0, y1, y2, y3, y4, y5, y6⟩ := HJ1.out.ext (Ext.below hB)
      unfold IntAt at y0 y1 y2 y3 y4 y5 y6
      simp only [r19, r22] at hK ⊢
      have HK := Lib.hid hK
      clear hK hr
      go_simp
      exact HK.out _ W (Below.refl _ _) rfl
    · have r19 : vs 19 = .bool true := hr 19 rfl
      have r20 : vs 20 = jobV J1 := hr 20 rfl
      have r23 : vs 23 = jobV J1 := hr 23 rfl
      rw [if_pos (by simp [Region.wanted, yielded, r19])]
      simp only [r19, r20, r23] at hK ⊢
      have HK := Lib.hid hK
      clear hK hr
      go_simp
      exact HK.out _ W (Below.refl _ _) rfl
    · have r19 : vs 19 = .bool true := hr 19 rfl
      have r24 : vs 24 = .bool true := hr 24 rfl
      rw [if_pos (by simp [Region.wanted])]
      simp only [r19, r24] at hK ⊢
      have HK := Lib.hid hK
      clear hK hr
      go_simp
      exact HK.out _ W (Below.refl _ _) rfl
    · have r25 : vs 25 = .bool true := hr 25 rfl
      rw [if_pos (by simp [Region.wanted])]
      simp only [r25] at hK ⊢
      have HK := Lib.hid hK
      clear hK hr
      go_simp
      exact HK.out _ W (Below.refl _ _) rfl
    · have r26 : vs 26 = .bool true := hr 26 rfl
      rw [if_pos (by simp [Region.wanted, yielded, r26])]
      simp only [r26] at hK ⊢
      have HK := Lib.hid hK
      clear hK hr
      go_simp
      exact HK.out _ W (Below.refl _ _) rfl
    · have r26 : vs 26 = .bool true := hr 26 rfl
      have r27 : vs 27 = .bool false := hr 27 rfl
      rw [if_pos (by simp [Region.wanted, yielded, r26])]
      simp only [r26, r27] at hK ⊢
      have HK := Lib.hid hK
      clear hK hr
      go_simp
      exact HK.out _ W (Below.refl _ _) rfl
    · have r26 : vs 26 = .bool true := hr 26 rfl
      have r28 : vs 28 = .bool true := hr 28 rfl
      rw [if_pos (by simp [Region.wanted])]
      simp only [r26, r28] at hK ⊢
      have HK := Lib.hid hK
      clear hK hr
      go_simp
      exact HK.out _ W (Below.refl _ _) rfl
    · have r29 : vs 29 = .bool true := hr 29 rfl
      rw [if_pos (by simp [Region.wanted])]
      simp only [r29] at hK ⊢
      have HK := Lib.hid hK
      clear hK hr
      go_simp
      exact HK.out _ W (Below.refl _ _) rfl
    · have r30 : vs 30 = .bool true := hr 30 rfl
      rw [if_pos (by simp [Region.wanted, yielded, r30])]
      simp only [r30] at hK ⊢
      have HK := Lib.hid hK
      clear hK hr
      go_simp
      exact HK.out _ W (Below.refl _ _) rfl
    · have r30 : vs 30 = .bool true := hr 30 rfl
      rw [if_pos (by simp [Region.wanted, yielded, r30])]
      simp only [r30] at hK ⊢
      have HK := Lib.hid hK
      clear hK hr
      go_simp
      exact HK.out _ W (Below.refl _ _) rfl
    · have r30 : vs 30 = .bool true := hr 30 rfl
      have r32 : vs 32 = .slice (some ⟨bj, 0, none⟩) 2 2 := hr 32 rfl
      rw [if_pos (by simp [Region.wanted, yielded, r30])]
      simp only [r30, r32] at hK ⊢
      have HK := Lib.hid hK
      clear hK hr
      go_simp
      exact HK.out _ W (Below.refl _ _) rfl
    · have r30 : vs 30 = .bool true := hr 30 rfl
      have r31 : vs 31 = vl := hr 31 rfl
      have r33 : vs 33 = .slice (some ⟨bj, 0, none⟩) 1 2 := hr 33 rfl
      rw [if_pos (by simp [Region.wanted, yielded, r30])]
      simp only [r30, r31, r33] at hK ⊢
      have HK := Lib.hid hK
      have HB := Lib.hid hB
      clear hK hr hB
      go_simp
      refine (sameJobs_any _ _ [J1] _ (HL.out.ext (Ext.below HB.out)) ((show JobsV w12 _ [J1] from HJV1.out).ext (Ext.below HB.out))).mono ?_
      rintro e w5 ⟨rfl, hb5⟩
      exact HK.out _ w5 hb5 rfl
    · have r30 : vs 30 = .bool true := hr 30 rfl
      have r34 : vs 34 = .bool true := hr 34 rfl
      rw [if_pos (by simp [Region.wanted])]
      simp only [r30, r34] at hK ⊢
      have HK := Lib.hid hK
      clear hK hr
      go_simp
      exact HK.out _ W (Below.refl _ _) rfl
    · have r35 : vs 35 = .bool true := hr 35 rfl
      rw [if_pos (by simp [Region.wanted])]
      simp only [r35] at hK ⊢
      have HK := Lib.hid hK
      clear hK hr
      go_simp
      exact HK.out _ W (Below.refl _ _) rfl
    · have r36 : vs 36 = .bool true := hr 36 rfl
      rw [if_pos (by simp [Region.wanted, yielded, r36])]
      simp only [r36] at hK ⊢
      have HK := Lib.hid hK
      clear hK hr
      go_simp
      exact HK.out _ W (Below.refl _ _) rfl
    · have r36 : vs 36 = .bool true := hr 36 rfl
      rw [if_pos (by simp [Region.wanted, yielded, r36])]
      simp only [r36] at hK ⊢
      have HK := Lib.hid hK
      clear hK hr
      go_simp
      exact HK.out _ W (Below.refl _ _) rfl
    · have r36 : vs 36 = .bool true := hr 36 rfl
      have r38 : vs 38 = .slice (some ⟨bj, 0, none⟩) 2 2 := hr 38 rfl
      rw [if_pos (by simp [Region.wanted, yielded, r36])]
      simp only [r36, r38] at hK ⊢
      have HK := Lib.hid hK
      clear hK hr
      go_simp
      exact HK.out _ W (Below.refl _ _) rfl
    · have r36 : vs 36 = .bool true := hr 36 rfl
      have r37 : vs 37 = vm := hr 37 rfl
      have r39 : vs 39 = .slice (some ⟨bj, 7, none⟩) 1 1 := hr 39 rfl
      rw [if_pos (by simp [Region.wanted, yielded, r36])]
      simp only [r36, r37, r39] at hK ⊢
      have HK := Lib.hid hK
      have HB := Lib.hid hB
      clear hK hr hB
      go_simp
      refine (sameJobs_any _ _ [J2] _ (HM.out.ext (Ext.below HB.out)) ((show JobsV w12 _ [J2] from HJV2.out).ext (Ext.below HB.out))).mono ?_
      rintro e w5 ⟨rfl, hb5⟩
      exact HK.out _ w5 hb5 rfl
    · have r36 : vs 36 = .bool true := hr 36 rfl
      have r40 : vs 40 = .bool true := hr 40 rfl
      rw [if_pos (by simp [Region.wanted])]
      simp only [r36, r40] at hK ⊢
      have HK := Lib.hid hK
      clear hK hr
      go_simp
      exact HK.out _ W (Below.refl _ _) rfl
    · have r41 : vs 41 = .bool true := hr 41 rfl
      rw [if_pos (by simp [Region.wanted])]
      simp only [r41] at hK ⊢
      have HK := Lib.hid hK
      clear hK hr
      go_simp
      exact HK.out _ W (Below.refl _ _) rfl
    · have r42 : vs 42 = .bool true := hr 42 rfl
      rw [if_pos (by simp [Region.wanted, yielded, r42])]
      simp only [r42] at hK ⊢
      have HK := Lib.hid hK
      clear hK hr
      go_simp
      exact HK.out _ W (Below.refl _ _) rfl
    · have r42 : vs 42 = .bool true := hr 42 rfl
      have r43 : vs 43 = .slice (some ⟨bj, 0, none⟩) 2 2 := hr 43 rfl
      rw [if_pos (by simp [Region.wanted, yielded, r42])]
      simp only [r42, r43] at hK ⊢
      have HK := Lib.hid hK
      have HB := Lib.hid hB
      clear hK hr hB
      go_simp
      refine (readyMay_any _ [J1, J2] _ (HJV.out.ext (Ext.below HB.out))).mono ?_
      rw [show jobsMay [J1, J2] = true by decide]
      rintro e w5 ⟨rfl, hb5⟩
      exact HK.out _ w5 hb5 rfl
    · have r42 : vs 42 = .bool true := hr 42 rfl
      have r44 : vs 44 = .bool true := hr 44 rfl
      rw [if_pos (by simp [Region.wanted])]
      simp only [r42, r44] at hK ⊢
      have HK := Lib.hid hK
      clear hK hr
      go_simp
      exact HK.out _ W (Below.refl _ _) rfl
    · have r45 : vs 45 = .bool true := hr 45 rfl
      rw [if_pos (by simp [Region.wanted])]
      simp only [r45] at hK ⊢
      have HK := Lib.hid hK
      clear hK hr
      go_simp
      exact HK.out _ W (Below.refl _ _) rfl
  · intro vs W hB hV
    simp only [List.map, putAll, Act.put, List.setIfInBounds_toArray, List.set_cons_succ, List.set_cons_zero, Nat.reduceAdd]
    have r0 : vs 0 = va := hV 0 (by simp)
    have r1 : vs 1 = jobV J1 := hV 1 (by simp)
    have r2 : vs 2 = jobV J3 := hV 2 (by simp)
    have r3 : vs 3 = jobV J2 := hV 3 (by simp)
    have r5 : vs 5 = .bool true := hV 5 (by simp)
    have r6 : vs 6 = .bool true := hV 6 (by simp)
    have r7 : vs 7 = .int .i64 0 := hV 7 (by simp)
    have r8 : vs 8 = .int .i64 0 := hV 8 (by simp)
    have r9 : vs 9 = .bool true := hV 9 (by simp)
    have r10 : vs 10 = .bool true := hV 10 (by simp)
    have r11 : vs 11 = .bool true := hV 11 (by simp)
    have r12 : vs 12 = .int .i64 1200 := hV 12 (by simp)
    have r13 : vs 13 = .int .i64 1200 := hV 13 (by simp)
    have r14 : vs 14 = .bool true := hV 14 (by simp)
    have r15 : vs 15 = .bool true := hV 15 (by simp)
    have r16 : vs 16 = .bool true := hV 16 (by simp)
    have r17 : vs 17 = .bool true := hV 17 (by simp)
    have r18 : vs 18 = .bool true := hV 18 (by simp)
    have r19 : vs 19 = .bool true := hV 19 (by simp)
    have r20 : vs 20 = jobV J1 := hV 20 (by simp)
    have r21 : vs 21 = .slice (some ⟨bj, 0, none⟩) 2 2 := hV 21 (by simp)
    have r22 : vs 22 = .pointer (some ⟨bj, 0, none⟩) := hV 22 (by simp)
    have r23 : vs 23 = jobV J1 := hV 23 (by simp)
    have r24 : vs 24 = .bool true := hV 24 (by simp)
    have r25 : vs 25 = .bool true := hV 25 (by simp)
    have r26 : vs 26 = .bool true := hV 26 (by simp)
    have r27 : vs 27 = .bool false := hV 27 (by simp)
    have r28 : vs 28 = .bool true := hV 28 (by simp)
    have r29 : vs 29 = .bool true := hV 29 (by simp)
    have r30 : vs 30 = .bool true := hV 30 (by simp)
    have r31 : vs 31 = vl := hV 31 (by simp)
    have r32 : vs 32 = .slice (some ⟨bj, 0, none⟩) 2 2 := hV 32 (by simp)
    have r33 : vs 33 = .slice (some ⟨bj, 0, none⟩) 1 2 := hV 33 (by simp)
    have r34 : vs 34 = .bool true := hV 34 (by simp)
    have r35 : vs 35 = .bool true := hV 35 (by simp)
    have r36 : vs 36 = .bool true := hV 36 (by simp)
    have r37 : vs 37 = vm := hV 37 (by simp)
    have r38 : vs 38 = .slice (some ⟨bj, 0, none⟩) 2 2 := hV 38 (by simp)
    have r39 : vs 39 = .slice (some ⟨bj, 7, none⟩) 1 1 := hV 39 (by simp)
    have r40 : vs 40 = .bool true := hV 40 (by simp)
    have r41 : vs 41 = .bool true := hV 41 (by simp)
    have r42 : vs 42 = .bool true := hV 42 (by simp)
    have r43 : vs 43 = .slice (some ⟨bj, 0, none⟩) 2 2 := hV 43 (by simp)
    have r44 : vs 44 = .bool true := hV 44 (by simp)
    have r45 : vs 45 = .bool true := hV 45 (by simp)
    have r46 : vs 46 = .bool true := hV 46 (by simp)
    simp only [r0, r1, r2, r3, r5, r6, r7, r8, r9, r10, r11, r12, r13, r14, r15, r16, r17, r18, r19, r20, r21, r22, r23, r24, r25, r26, r27, r28, r29, r30, r31, r32, r33, r34, r35, r36, r37, r38, r39, r40, r41, r42, r43, r44, r45, r46]
    clear r0 r1 r2 r3 r5 r6 r7 r8 r9 r10 r11 r12 r13 r14 r15 r16 r17 r18 r19 r20 r21 r22 r23 r24 r25 r26 r27 r28 r29 r30 r31 r32 r33 r34 r35 r36 r37 r38 r39 r40 r41 r42 r43 r44 r45 r46
    have HB13 := Lib.hid (bthen HB12.out hB)
    clear hB hV
    go_wp2_with fail
    go_ret
    exact ⟨rfl, HB13.out⟩
end Go.Proofs.Ytpjmceiegogobaa
