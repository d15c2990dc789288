/- slices.BinarySearchFunc at jobs, by ready.compare. -/
import Derived.Test.YtpjmceiegogobaaJobD
import Derived.Test.YtpjmceiegogobaaRegI
set_option linter.unusedVariables false
set_option linter.unusedSimpArgs false
namespace Go.Proofs.Ytpjmceiegogobaa
open Go.RowKit

/-- Where a job stands, or would stand. -/
def pos (js : List Job) (x : Job) : Nat := (js.takeWhile (fun y => ahead y x)).length
theorem pos_eq {js : List Job} {x : Job} {p : Nat} (hp : p ≤ js.length) (h1 : ∀ k (h : k < js.length), k < p → ahead js[k] x = true) (h2 : ∀ h : p < js.length, ahead js[p] x = false) : pos js x = p := by
  unfold pos
  induction js generalizing p with
  | nil => simp at hp; simp [hp]
  | cons y r ih =>
    cases p with
    | zero =>
      have := h2 (by simp)
      simp at this
      simp [List.takeWhile_cons, this]
    | succ p =>
      have hy := h1 0 (by simp) (by omega)
      simp at hy
      rw [List.takeWhile_cons, hy]
      simp only [if_true, List.length_cons]
      rw [ih (p := p) (by simpa using hp) (fun k h hk => h1 (k + 1) (by simpa using h) (by omega)) (fun h => h2 (by simpa using h))]
def hit (js : List Job) (x : Job) : Bool := decide ((js[pos js x]?.map (fun y => cmpJ y x)) = some 0)
set_option maxRecDepth 100000 in
set_option maxHeartbeats 8000000 in
theorem bsearch_any (v : Value) (js : List Job) (x : Job) (w : World) (hv : JobsV w v js) (hs : ∀ a b (hb : b < js.length) (hab : a ≤ b), ahead js[b] x = true → ahead (js[a]'(by omega)) x = true) (hl : js.length ≤ 1000000) :
    Calls Try.prog 34 #[v, jobV x, .func (.func 31) #[] #[]] w fun e w' => e = .returned (.tuple #[.int .i64 (pos js x), .bool (hit js x)]) ∧ Below w.heap.size w w' := by
  obtain ⟨a, cap, rfl, h2, h3, h4, h5⟩ := hv
  have H := Lib.hid (And.intro h5 hs)
  have hb0 := balloc w (.cells #[.int .i64 x.task, .int .i64 x.seq, .int .i64 x.prio, .int .i64 x.release, .int .i64 x.deadline, .int .i64 x.demand, .int .i64 x.used] 24)
  have hx0 : JobAt (w.alloc (.cells #[.int .i64 x.task, .int .i64 x.seq, .int .i64 x.prio, .int .i64 x.release, .int .i64 x.deadline, .int .i64 x.demand, .int .i64 x.used] 24)) w.heap.size 0 x := flatJob.of _ _ _ _ (fun j u hu => by rw [Nat.zero_add]; exact box_at j (by simpa [jobCells] using hu))
  have HX := Lib.hid (And.intro hb0 hx0)
  clear h5 hs hb0 hx0
  go_enter Try.func34, Try.ntmps34
  go_wp2_with fail
  obtain ⟨w0, hw0⟩ : ∃ w0, w0 = w.alloc (.cells #[.int .i64 x.task, .int .i64 x.seq, .int .i64 x.prio, .int .i64 x.release, .int .i64 x.deadline, .int .i64 x.demand, .int .i64 x.used] 24) := ⟨_, rfl⟩
  obtain ⟨bx, hbx⟩ : ∃ bx, bx = w.heap.size := ⟨_, rfl⟩
  rw [← hw0, ← hbx] at HX ⊢
  have HBX := Lib.hid hbx
  clear hw0 hbx
  go_loopw [9, 10, 11] (fun i j _ wr => ∃ p q : Nat, p ≤ q ∧ q ≤ js.length ∧ i = .int .i64 p ∧ j = .int .i64 q ∧ Hid ((∀ k (h : k < js.length), k < p → ahead js[k] x = true) ∧ (∀ k (h : k < js.length), q ≤ k → ahead js[k] x = false)) ∧ Below bx w wr ∧ Hid (JobAt wr bx 0 x)) (fun i j _ _ => (intOf j).toNat - (intOf i).toNat)
  case atStart => exact ⟨0, js.length, by omega, by omega, rfl, rfl, Lib.hid ⟨fun k h h' => by omega, fun k h h' => by omega⟩, HX.out.1, Lib.hid HX.out.2⟩
  case round =>
    obtain ⟨p, q, hpq, hq, rfl, rfl, HD, hB, HY⟩ := hrel
    have HB := Lib.hid hB
    clear hB
    by_cases hlt : p < q
    · obtain ⟨m, hm⟩ : ∃ m, m = (p + q) / 2 := ⟨_, rfl⟩
      have hi : ((p : Int) + q) / 2 = (m : Int) := by omega
      have hm1 : p ≤ m := by omega
      have hm2 : m < q := by omega
      have hml : m < js.length := by omega
      have hm3 : (0 : Int) ≤ (m : Int) := by omega
      have hm4 : (m : Int) < (js.length : Int) := by omega
      clear hm
      obtain ⟨b, off, rfl, hc⟩ := H.out.1 (by intro h; rw [h] at hml; simp at hml)
      have HC := Lib.hid (hc m hml)
      obtain ⟨c, hcq⟩ : ∃ c, c = cmpJ js[m] x := ⟨_, rfl⟩
      have HQ := Lib.hid hcq
      clear hc hcq
      by_cases hneg : c < 0
      · have HA := Lib.hid ((cmpJ_neg js[m] x).1 (HQ.out ▸ hneg))
        have hneg' : decide (c < 0) = true := decide_eq_true hneg
        go_wp2_with fail
        refine region_tail 6 (by kernel_rfl) (by kernel_rfl) ?_
        intro wy hy hby
        have hE : Ext w wy := fun a v h => by rw [cell_of_heap hy]; exact Ext.below (HBX.out ▸ HB.out) _ _ h
        obtain ⟨y0, y1, y2, y3, y4, y5, y6⟩ := HC.out.ext hE
        obtain ⟨x0, x1, x2, x3, x4, x5, x6⟩ := HY.out.ext (show Ext wr wy from fun a v h => by rw [cell_of_heap hy]; exact h)
        unfold IntAt at y0 y1 y2 y3 y4 y5 y6 x0 x1 x2 x3 x4 x5 x6
        have HBY := Lib.hid hby
        clear hE hy hby
        simp only [List.take_succ_cons, List.take_zero, List.drop_succ_cons, List.drop_zero]
        repeat still_step
        refine wpStill_nil ?_
        go_wp2_with fail
        refine (compare_any js[m] x _).mono ?_
        rw [← HQ.out]
        rintro e w5 ⟨rfl, hb5⟩
        have HB5 := Lib.hid (HB.out.trans ((bthen HBY.out hb5).mono (HBX.out ▸ HB.out.size)))
        have HY5 := Lib.hid (HY.out.ext (Ext.below (bthen HBY.out hb5)))
        clear y0 y1 y2 y3 y4 y5 y6 x0 x1 x2 x3 x4 x5 x6 hb5
        go_wp2_with fail
        go_roundw
        case rel => exact ⟨m + 1, q, by omega, by omega, by go_num, rfl, Lib.hid ⟨fun k h hk => H.out.2 k m hml (by omega) HA.out, HD.out.2⟩, HB5.out, HY5⟩
        case measure => simp [intOf]; omega
      · have HA := Lib.hid (show ahead js[m] x = false from Bool.eq_false_iff.2 (fun h => hneg (HQ.out ▸ (cmpJ_neg js[m] x).2 h)))
        have hneg' : decide (c < 0) = false := decide_eq_false hneg
        clear hneg
        go_wp2_with fail
        refine region_tail 6 (by kernel_rfl) (by kernel_rfl) ?_
        intro wy hy hby
        have hE : Ext w wy := fun a v h => by rw [cell_of_heap hy]; exact Ext.below (HBX.out ▸ HB.out) _ _ h
        obtain ⟨y0, y1, y2, y3, y4, y5, y6⟩ := HC.out.ext hE
        obtain ⟨x0, x1, x2, x3, x4, x5, x6⟩ := HY.out.ext (show Ext wr wy from fun a v h => by rw [cell_of_heap hy]; exact h)
        unfold IntAt at y0 y1 y2 y3 y4 y5 y6 x0 x1 x2 x3 x4 x5 x6
        have HBY := Lib.hid hby
        clear hE hy hby
        simp only [List.take_succ_cons, List.take_zero, List.drop_succ_cons, List.drop_zero]
        repeat still_step
        refine wpStill_nil ?_
        go_wp2_with fail
        refine (compare_any js[m] x _).mono ?_
        rw [← HQ.out]
        rintro e w5 ⟨rfl, hb5⟩
        have HB5 := Lib.hid (HB.out.trans ((bthen HBY.out hb5).mono (HBX.out ▸ HB.out.size)))
        have HY5 := Lib.hid (HY.out.ext (Ext.below (bthen HBY.out hb5)))
        clear y0 y1 y2 y3 y4 y5 y6 x0 x1 x2 x3 x4 x5 x6 hb5
        go_wp2_with fail
        go_roundw
        case rel => exact ⟨p, m, by omega, by omega, rfl, by go_num, Lib.hid ⟨HD.out.1, fun k h hk => Bool.eq_false_iff.2 (fun h' => by have := H.out.2 m k h hk h'; rw [HA.out] at this; cases this)⟩, HB5.out, HY5⟩
        case measure => simp [intOf]; omega
    · obtain rfl : p = q := by omega
      have HP := Lib.hid (pos_eq hq HD.out.1 (fun h => HD.out.2 p h (Nat.le_refl _)))
      by_cases hlt' : p < js.length
      · obtain ⟨b, off, rfl, hc⟩ := H.out.1 (by intro h; rw [h] at hlt'; simp at hlt')
        have HC := Lib.hid (hc p hlt')
        obtain ⟨c, hcq⟩ : ∃ c, c = cmpJ js[p] x := ⟨_, rfl⟩
        have HQ := Lib.hid hcq
        have HH := Lib.hid (show hit js x = (c == 0) by unfold hit; rw [HP.out, List.getElem?_eq_getElem hlt', Option.map_some, ← hcq]; by_cases h : c = 0 <;> simp [h])
        have hs1 : decide ((p : Int) < (js.length : Int)) = true := decide_eq_true (by omega)
        have hs2 : (p : Int) < (js.length : Int) := by omega
        clear hc hcq
        go_wp2_with fail
        have HE := Lib.hid (show Ext w wr from fun a v h => Ext.below (HBX.out ▸ HB.out) _ _ h)
        refine region_v rfl (by kernel_rfl) (fun (i : Nat) (v : Value) (W : World) => match i with | 0 => v = .int .i64 p | 1 => v = .int .i64 p | 2 => v = .int .i64 js.length | 3 => v = .bool true | 4 => v = .bool true | 5 => v = .func (.func 31) #[] #[] | 6 => v = .slice (some ⟨b, off, none⟩) js.length cap | 7 => v = .int .i64 p | 8 => v = .pointer (some ⟨b, off + p * 7, none⟩) | 9 => v = jobV js[p] | 10 => v = jobV x | 11 => v = .int .i64 c | 12 => v = .bool (c == 0) | 13 => v = .bool (c == 0) | 14 => v = .int .i64 p | 15 => v = .bool (c == 0) | _ => True) ?_ ?_ ?_
        · intro i v W W' hb h
          (try dsimp only at h ⊢)
          split at h <;> first | exact h | trivial
        · simp (config := { maxSteps := 4000000 }) only [List.map, putAll, Act.put, VE, List.setIfInBounds_toArray, List.set_cons_succ, List.set_cons_zero, Nat.reduceAdd]
          refine ⟨?_, ?_, ?_, ?_, ?_, ?_, ?_, ?_, ?_, ?_, ?_, ?_, ?_, ?_, ?_, ?_, trivial⟩
          all_goals intro vs W hB hr KK hK
          · rw [if_pos (by simp [Region.wanted])]
            have HK := Lib.hid hK
            clear hK hr
            go_simp
            exact HK.out _ W (Below.refl _ _) rfl
          · rw [if_pos (by simp [Region.wanted])]
            have HK := Lib.hid hK
            clear hK hr
            go_simp
            exact HK.out _ W (Below.refl _ _) rfl
          · rw [if_pos (by simp [Region.wanted])]
            have HK := Lib.hid hK
            clear hK hr
            go_simp
            exact HK.out _ W (Below.refl _ _) rfl
          · have r1 : vs 1 = .int .i64 p := hr 1 rfl
            have r2 : vs 2 = .int .i64 js.length := hr 2 rfl
            rw [if_pos (by simp [Region.wanted])]
            simp only [r1, r2] at hK ⊢
            have HK := Lib.hid hK
            clear hK hr
            go_simp
            exact HK.out _ W (Below.refl _ _) rfl
          · have r3 : vs 3 = .bool true := hr 3 rfl
            rw [if_pos (by simp [Region.wanted])]
            simp only [r3] at hK ⊢
            have HK := Lib.hid hK
            clear hK hr
            go_simp
            exact HK.out _ W (Below.refl _ _) rfl
          · have r4 : vs 4 = .bool true := hr 4 rfl
            rw [if_pos (by simp [Region.wanted, yielded, r4])]
            simp only [r4] at hK ⊢
            have HK := Lib.hid hK
            clear hK hr
            go_simp
            exact HK.out _ W (Below.refl _ _) rfl
          · have r4 : vs 4 = .bool true := hr 4 rfl
            rw [if_pos (by simp [Region.wanted, yielded, r4])]
            simp only [r4] at hK ⊢
            have HK := Lib.hid hK
            clear hK hr
            go_simp
            exact HK.out _ W (Below.refl _ _) rfl
          · have r4 : vs 4 = .bool true := hr 4 rfl
            rw [if_pos (by simp [Region.wanted, yielded, r4])]
            simp only [r4] at hK ⊢
            have HK := Lib.hid hK
            clear hK hr
            go_simp
            exact HK.out _ W (Below.refl _ _) rfl
          · have r4 : vs 4 = .bool true := hr 4 rfl
            have r6 : vs 6 = .slice (some ⟨b, off, none⟩) js.length cap := hr 6 rfl
            have r7 : vs 7 = .int .i64 p := hr 7 rfl
            rw [if_pos (by simp [Region.wanted, yielded, r4])]
            simp only [r4, r6, r7] at hK ⊢
            have HK := Lib.hid hK
            clear hK hr
            go_simp
            exact HK.out _ W (Below.refl _ _) rfl
          · have r4 : vs 4 = .bool true := hr 4 rfl
            have r8 : vs 8 = .pointer (some ⟨b, off + p * 7, none⟩) := hr 8 rfl
            rw [if_pos (by simp [Region.wanted, yielded, r4])]
            obtain ⟨y0, y1, y2, y3, y4, y5, y6⟩ := HC.out.ext (HE.out.trans (Ext.below hB))
            unfold IntAt at y0 y1 y2 y3 y4 y5 y6
            simp only [r4, r8] at hK ⊢
            have HK := Lib.hid hK
            clear hK hr
            go_simp
            exact HK.out _ W (Below.refl _ _) rfl
          · have r4 : vs 4 = .bool true := hr 4 rfl
            rw [if_pos (by simp [Region.wanted, yielded, r4])]
            obtain ⟨x0, x1, x2, x3, x4, x5, x6⟩ := HY.out.ext (Ext.below hB)
            unfold IntAt at x0 x1 x2 x3 x4 x5 x6
            simp only [r4] at hK ⊢
            have HK := Lib.hid hK
            clear hK hr
            go_simp
            exact HK.out _ W (Below.refl _ _) rfl
          · have r4 : vs 4 = .bool true := hr 4 rfl
            have r5 : vs 5 = .func (.func 31) #[] #[] := hr 5 rfl
            have r9 : vs 9 = jobV js[p] := hr 9 rfl
            have r10 : vs 10 = jobV x := hr 10 rfl
            rw [if_pos (by simp [Region.wanted, yielded, r4])]
            simp only [r4, r5, r9, r10] at hK ⊢
            have HK := Lib.hid hK
            have HB := Lib.hid hB
            clear hK hr hB
            go_simp
            refine (compare_any js[p] x _).mono ?_
            rw [← HQ.out]
            rintro e w5 ⟨rfl, hb5⟩
            exact HK.out _ w5 hb5 rfl
          · have r4 : vs 4 = .bool true := hr 4 rfl
            have r11 : vs 11 = .int .i64 c := hr 11 rfl
            rw [if_pos (by simp [Region.wanted, yielded, r4])]
            simp only [r4, r11] at hK ⊢
            have HK := Lib.hid hK
            clear hK hr
            go_simp
            exact HK.out _ W (Below.refl _ _) rfl
          · have r4 : vs 4 = .bool true := hr 4 rfl
            have r12 : vs 12 = .bool (c == 0) := hr 12 rfl
            rw [if_pos (by simp [Region.wanted])]
            simp only [r4, r12] at hK ⊢
            have HK := Lib.hid hK
            clear hK hr
            go_simp
            exact HK.out _ W (Below.refl _ _) rfl
          · have r0 : vs 0 = .int .i64 p := hr 0 rfl
            rw [if_pos (by simp [Region.wanted])]
            simp only [r0] at hK ⊢
            have HK := Lib.hid hK
            clear hK hr
            go_simp
            exact HK.out _ W (Below.refl _ _) rfl
          · have r13 : vs 13 = .bool (c == 0) := hr 13 rfl
            rw [if_pos (by simp [Region.wanted])]
            simp only [r13] at hK ⊢
            have HK := Lib.hid hK
            clear hK hr
            go_simp
            exact HK.out _ W (Below.refl _ _) rfl
        · intro vs W hB hV
          simp only [List.map, putAll, Act.put, List.setIfInBounds_toArray, List.set_cons_succ, List.set_cons_zero, Nat.reduceAdd]
          have r0 : vs 0 = .int .i64 p := hV 0 (by simp)
          have r1 : vs 1 = .int .i64 p := hV 1 (by simp)
          have r2 : vs 2 = .int .i64 js.length := hV 2 (by simp)
          have r3 : vs 3 = .bool true := hV 3 (by simp)
          have r4 : vs 4 = .bool true := hV 4 (by simp)
          have r5 : vs 5 = .func (.func 31) #[] #[] := hV 5 (by simp)
          have r6 : vs 6 = .slice (some ⟨b, off, none⟩) js.length cap := hV 6 (by simp)
          have r7 : vs 7 = .int .i64 p := hV 7 (by simp)
          have r8 : vs 8 = .pointer (some ⟨b, off + p * 7, none⟩) := hV 8 (by simp)
          have r9 : vs 9 = jobV js[p] := hV 9 (by simp)
          have r10 : vs 10 = jobV x := hV 10 (by simp)
          have r11 : vs 11 = .int .i64 c := hV 11 (by simp)
          have r12 : vs 12 = .bool (c == 0) := hV 12 (by simp)
          have r13 : vs 13 = .bool (c == 0) := hV 13 (by simp)
          have r14 : vs 14 = .int .i64 p := hV 14 (by simp)
          have r15 : vs 15 = .bool (c == 0) := hV 15 (by simp)
          simp only [r0, r1, r2, r3, r4, r5, r6, r7, r8, r9, r10, r11, r12, r13, r14, r15]
          clear r0 r1 r2 r3 r4 r5 r6 r7 r8 r9 r10 r11 r12 r13 r14 r15
          have HB5 := Lib.hid (HB.out.trans (hB.mono (HBX.out ▸ HB.out.size)))
          clear hB hV
          go_wp2_with fail
          go_ret2
          exact ⟨by rw [HP.out, HH.out]; rfl, HBX.out ▸ HB5.out⟩
      · obtain rfl : p = js.length := by omega
        have HH := Lib.hid (show hit js x = false by unfold hit; rw [HP.out]; simp)
        have hs1 : decide ((js.length : Int) < (js.length : Int)) = false := decide_eq_false (by omega)
        go_wp2_with fail
        go_quiet (fail)
        go_wp2_with fail
        go_ret2
        exact ⟨by rw [HP.out, HH.out]; rfl, HBX.out ▸ below_drewN HB.out _⟩
end Go.Proofs.Ytpjmceiegogobaa
