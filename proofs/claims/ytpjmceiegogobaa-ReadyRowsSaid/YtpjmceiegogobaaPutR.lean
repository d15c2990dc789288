/- The reference's PutJob (printed by genpj.py). -/
import Derived.Test.YtpjmceiegogobaaJobM
import Derived.Test.YtpjmceiegogobaaPut2
set_option linter.unusedVariables false
set_option linter.unusedSimpArgs false
namespace Go.Proofs.Ytpjmceiegogobaa
open Go.RowKit

theorem src_zero (w : World) (q : Option Addr) (c : Nat) : Src w (.slice q 0 c) 0 [] := by
  cases q with
  | none => exact .inl ⟨c, rfl, rfl, rfl⟩
  | some ad => exact .inr ⟨ad, c, rfl, fun j u hu => by simp at hu⟩
theorem jobs_take {w : World} {a : Option Addr} {n cap p : Nat} {js : List Job} (h : JobsV w (.slice a n cap) js) (hp : p ≤ js.length) : JobsV w (.slice a p cap) (js.take p) := by
  obtain ⟨_, _, e, h2, h3, h4, hc⟩ := h
  injection e with e1 e2 e3
  subst e1; subst e2; subst e3
  have hn : (js.take p).length = p := by rw [List.length_take]; omega
  refine ⟨_, _, by rw [hn], by omega, by omega, h4, fun hne => ?_⟩
  obtain ⟨b, off, rfl, hq⟩ := hc (by rintro rfl; simp at hne)
  exact ⟨b, off, rfl, fun i hi => by rw [List.getElem_take]; exact hq i (by omega)⟩
theorem jobs_drop {w : World} {b off : Nat} {n cap p : Nat} {js : List Job} (h : JobsV w (.slice (some ⟨b, off, none⟩) n cap) js) (hp : p ≤ js.length) : JobsV w (.slice (some ⟨b, off + p * 7, none⟩) (n - p) (cap - p)) (js.drop p) := by
  obtain ⟨_, _, e, h2, h3, h4, hc⟩ := h
  injection e with e1 e2 e3
  subst e1; subst e2; subst e3
  have hn : (js.drop p).length = js.length - p := List.length_drop
  refine ⟨_, _, by rw [hn], by omega, by omega, by omega, fun hne => ?_⟩
  obtain ⟨b, off, e, hq⟩ := hc (by rintro rfl; simp at hne)
  injection e with e
  injection e with e1 e2
  subst e1; subst e2
  refine ⟨_, _, rfl, fun i hi => ?_⟩
  rw [List.getElem_drop, show off + p * 7 + i * 7 = off + (p + i) * 7 by omega]
  exact hq (p + i) (by omega)
theorem JobsV.at' {w : World} {b off n cap : Nat} {js : List Job} (h : JobsV w (.slice (some ⟨b, off, none⟩) n cap) js) {k : Nat} (hk : k < js.length) : JobAt w b (off + k * 7) js[k] := by
  obtain ⟨_, _, e, -, -, -, hc⟩ := h
  obtain ⟨b', o', e', hq⟩ := hc (by intro h; rw [h] at hk; simp at hk)
  injection e with e _ _
  rw [e'] at e
  injection e with e
  injection e with e1 e2
  subst e1; subst e2
  exact hq k hk
set_option maxRecDepth 100000 in
set_option maxHeartbeats 16000000 in
theorem refPut_any (v : Value) (js : List Job) (x : Job) (w : World) (hv : JobsV w v js) :
    Calls Try.prog 10 #[v, jobV x] w fun e w' => ∃ v', e = .returned (.tuple #[v', .int .i64 (putE js x)]) ∧ (putE js x ≠ 0 → v' = .slice none 0 0) ∧ (putE js x = 0 → JobRow w' w.heap.size v' (putL js x)) ∧ Below w.heap.size w w' := by
  obtain ⟨a, cap, rfl, h2, h3, h4, h5⟩ := id hv
  have H := Lib.hid h5
  have hl : js.length ≤ 2513169434844 := by omega
  have hb0 := balloc w (.cells #[.int .i64 x.task, .int .i64 x.seq, .int .i64 x.prio, .int .i64 x.release, .int .i64 x.deadline, .int .i64 x.demand, .int .i64 x.used] 24)
  have HV0 := Lib.hid (hv.ext (Ext.below hb0))
  have HB0 := Lib.hid hb0
  clear h5 hv hb0
  go_enter Try.func10, Try.ntmps10
  obtain ⟨wz, hwz⟩ : ∃ wz, wz = w.alloc (.cells #[.int .i64 x.task, .int .i64 x.seq, .int .i64 x.prio, .int .i64 x.release, .int .i64 x.deadline, .int .i64 x.demand, .int .i64 x.used] 24) := ⟨_, rfl⟩
  obtain ⟨bx, hbx⟩ : ∃ bx, bx = w.heap.size := ⟨_, rfl⟩
  have hk := blk_new w (.cells #[.int .i64 x.task, .int .i64 x.seq, .int .i64 x.prio, .int .i64 x.release, .int .i64 x.deadline, .int .i64 x.demand, .int .i64 x.used] 24)
  rw [← hwz] at HV0 HB0 hk
  rw [← hbx] at hk
  have HXZ := Lib.hid (show JobAt wz bx 0 x from ⟨BlockIs.of hk 0 _ rfl, BlockIs.of hk 1 _ rfl, BlockIs.of hk 2 _ rfl, BlockIs.of hk 3 _ rfl, BlockIs.of hk 4 _ rfl, BlockIs.of hk 5 _ rfl, BlockIs.of hk 6 _ rfl⟩)
  have HBX := Lib.hid hbx
  clear hk
  go_wp2_with fail
  rw [← hwz, ← hbx]
  clear hwz
  clear hbx
  go_loopw [6] (fun i wr => ∃ k : Nat, k ≤ js.length ∧ i = .int .i64 k ∧ Hid (∀ j (h : j < js.length), j < k → ahead js[j] x = true) ∧ Hid (Below wz.heap.size wz wr)) (fun i _ => js.length - (intOf i).toNat)
  case atStart => exact ⟨0, by omega, rfl, Lib.hid (fun j _ h => by omega), Lib.hid (Below.refl _ _)⟩
  case round =>
    obtain ⟨k, hk, rfl, HD, HBR⟩ := hrel
    have HX0 := Lib.hid (HXZ.out.ext (Ext.below HBR.out))
    have HV1 := Lib.hid (HV0.out.ext (Ext.below HBR.out))
    have HB1 := Lib.hid (bthen HB0.out HBR.out)
    by_cases hlt : k < js.length
    · obtain ⟨b, off, rfl, hc⟩ := H.out (by intro h; rw [h] at hlt; simp at hlt)
      have hc := (HV1.out).at' hlt
      have HY1 := Lib.hid hc
      obtain ⟨q, hq⟩ : ∃ q, q = ahead js[k] x := ⟨_, rfl⟩
      have HQ := Lib.hid hq
      clear hc hq
      go_wp2_with fail
      have HX := HX0
      have HY := HY1
      refine region_v rfl (by kernel_rfl) (fun (i : Nat) (v : Value) (W : World) => match i with | 0 => v = .int .i64 (k : Int) | 1 => v = .slice (some ⟨b, off, none⟩) js.length cap | 2 => v = .int .i64 js.length | 3 => v = .bool true | 4 => v = .bool true | 5 => v = .slice (some ⟨b, off, none⟩) js.length cap | 6 => v = .int .i64 (k : Int) | 7 => v = .pointer (some ⟨b, off + k * 7, none⟩) | 8 => v = jobV js[k] | 9 => v = jobV x | 10 => v = .bool q | 11 => v = .bool q | _ => True) ?_ ?_ ?_
      · intro i v W W' hb h
        (try dsimp only at h ⊢)
        split at h <;> first | exact h | trivial
      · simp (config := { maxSteps := 4000000 }) only [List.map, putAll, Act.put, VE, List.setIfInBounds_toArray, List.set_cons_succ, List.set_cons_zero, Nat.reduceAdd]
        refine ⟨?_, ?_, ?_, ?_, ?_, ?_, ?_, ?_, ?_, ?_, ?_, ?_, trivial⟩
        all_goals intro vs W hB hr KK hK
        · rw [if_pos (by simp [Region.wanted])]
          have HK := Lib.hid hK
          clear hK hr
          go_simp
          exact HK.out _ W (Below.refl _ _) rfl
        · rw [if_pos (by simp [Region.wanted])]
          have HK := Lib.hid hK
          clear hK hr
          go_simp
          exact HK.out _ W (Below.refl _ _) rfl
        · have r1 : vs 1 = .slice (some ⟨b, off, none⟩) js.length cap := hr 1 rfl
          rw [if_pos (by simp [Region.wanted])]
          simp only [r1] at hK ⊢
          have HK := Lib.hid hK
          clear hK hr
          go_simp
          exact HK.out _ W (Below.refl _ _) rfl
        · have r0 : vs 0 = .int .i64 (k : Int) := hr 0 rfl
          have r2 : vs 2 = .int .i64 js.length := hr 2 rfl
          rw [if_pos (by simp [Region.wanted])]
          simp only [r0, r2] at hK ⊢
          have HK := Lib.hid hK
          clear hK hr
          go_simp
          exact HK.out _ W (Below.refl _ _) rfl
        · have r3 : vs 3 = .bool true := hr 3 rfl
          rw [if_pos (by simp [Region.wanted])]
          simp only [r3] at hK ⊢
          have HK := Lib.hid hK
          clear hK hr
          go_simp
          exact HK.out _ W (Below.refl _ _) rfl
        · have r4 : vs 4 = .bool true := hr 4 rfl
          rw [if_pos (by simp [Region.wanted, yielded, r4])]
          simp only [r4] at hK ⊢
          have HK := Lib.hid hK
          clear hK hr
          go_simp
          exact HK.out _ W (Below.refl _ _) rfl
        · have r4 : vs 4 = .bool true := hr 4 rfl
          rw [if_pos (by simp [Region.wanted, yielded, r4])]
          simp only [r4] at hK ⊢
          have HK := Lib.hid hK
          clear hK hr
          go_simp
          exact HK.out _ W (Below.refl _ _) rfl
        · have r4 : vs 4 = .bool true := hr 4 rfl
          have r5 : vs 5 = .slice (some ⟨b, off, none⟩) js.length cap := hr 5 rfl
          have r6 : vs 6 = .int .i64 (k : Int) := hr 6 rfl
          rw [if_pos (by simp [Region.wanted, yielded, r4])]
          simp only [r4, r5, r6] at hK ⊢
          have HK := Lib.hid hK
          clear hK hr
          go_simp
          exact HK.out _ W (Below.refl _ _) rfl
        · have r4 : vs 4 = .bool true := hr 4 rfl
          have r7 : vs 7 = .pointer (some ⟨b, off + k * 7, none⟩) := hr 7 rfl
          rw [if_pos (by simp [Region.wanted, yielded, r4])]
          obtain ⟨y0, y1, y2, y3, y4, y5, y6⟩ := HY.out.ext (Ext.below hB)
          unfold IntAt at y0 y1 y2 y3 y4 y5 y6
          simp only [r4, r7] at hK ⊢
          have HK := Lib.hid hK
          clear hK hr
          go_simp
          exact HK.out _ W (Below.refl _ _) rfl
        · have r4 : vs 4 = .bool true := hr 4 rfl
          rw [if_pos (by simp [Region.wanted, yielded, r4])]
          obtain ⟨x0, x1, x2, x3, x4, x5, x6⟩ := HX.out.ext (Ext.below hB)
          unfold IntAt at x0 x1 x2 x3 x4 x5 x6
          simp only [r4] at hK ⊢
          have HK := Lib.hid hK
          clear hK hr
          go_simp
          exact HK.out _ W (Below.refl _ _) rfl
        · have r4 : vs 4 = .bool true := hr 4 rfl
          have r8 : vs 8 = jobV js[k] := hr 8 rfl
          have r9 : vs 9 = jobV x := hr 9 rfl
          rw [if_pos (by simp [Region.wanted, yielded, r4])]
          simp only [r4, r8, r9] at hK ⊢
          have HK := Lib.hid hK
          have HB := Lib.hid hB
          clear hK hr hB
          go_simp
          refine (ahead_any js[k] x _).mono ?_
          rw [← HQ.out]
          rintro e w5 ⟨rfl, hb5⟩
          exact HK.out _ w5 hb5 rfl
        · have r4 : vs 4 = .bool true := hr 4 rfl
          have r10 : vs 10 = .bool q := hr 10 rfl
          rw [if_pos (by simp [Region.wanted])]
          simp only [r4, r10] at hK ⊢
          have HK := Lib.hid hK
          clear hK hr
          go_simp
          exact HK.out _ W (Below.refl _ _) rfl
      · intro vs W hB hV
        simp only [List.map, putAll, Act.put, List.setIfInBounds_toArray, List.set_cons_succ, List.set_cons_zero, Nat.reduceAdd]
        have r0 : vs 0 = .int .i64 (k : Int) := hV 0 (by simp)
        have r1 : vs 1 = .slice (some ⟨b, off, none⟩) js.length cap := hV 1 (by simp)
        have r2 : vs 2 = .int .i64 js.length := hV 2 (by simp)
        have r3 : vs 3 = .bool true := hV 3 (by simp)
        have r4 : vs 4 = .bool true := hV 4 (by simp)
        have r5 : vs 5 = .slice (some ⟨b, off, none⟩) js.length cap := hV 5 (by simp)
        have r6 : vs 6 = .int .i64 (k : Int) := hV 6 (by simp)
        have r7 : vs 7 = .pointer (some ⟨b, off + k * 7, none⟩) := hV 7 (by simp)
        have r8 : vs 8 = jobV js[k] := hV 8 (by simp)
        have r9 : vs 9 = jobV x := hV 9 (by simp)
        have r10 : vs 10 = .bool q := hV 10 (by simp)
        have r11 : vs 11 = .bool q := hV 11 (by simp)
        simp only [r0, r1, r2, r3, r4, r5, r6, r7, r8, r9, r10, r11]
        clear r0 r1 r2 r3 r4 r5 r6 r7 r8 r9 r10 r11
        have HB2 := Lib.hid (bthen HB1.out hB)
        have HX := Lib.hid (HX0.out.ext (Ext.below hB))
        have HY := Lib.hid (HY1.out.ext (Ext.below hB))
        have HV := Lib.hid (HV1.out.ext (Ext.below hB))
        have HW := Lib.hid (bthen HBR.out hB)
        obtain ⟨w2, hw2⟩ : ∃ w2, w2 = W := ⟨_, rfl⟩
        rw [← hw2] at HB2 HX HY HV HW ⊢
        clear hB hV hw2
        cases q
        · have HP := Lib.hid (show pos js x = k from pos_eq hk HD.out (fun _ => HQ.out.symm))
          go_wp2_with fail
          by_cases hm : jobsMay js = true
          · have HM := Lib.hid hm
            by_cases hj : jobMay x = true
            · have HJ := Lib.hid hj
              clear hm hj
              obtain ⟨r, hr⟩ : ∃ r, r = ahead x js[k] := ⟨_, rfl⟩
              have HR := Lib.hid hr
              have HH := Lib.hid (show hit js x = !r by
                rw [hr]; unfold hit; rw [HP.out, List.getElem?_eq_getElem hlt, Option.map_some, Bool.eq_iff_iff]
                have := cmpJ_zero js[k] x
                simp only [Option.some.injEq, decide_eq_true_eq, Bool.not_eq_true', this]
                exact ⟨fun h => h.2, fun h => ⟨HQ.out.symm, h⟩⟩)
              clear hr
              refine region_v rfl (by kernel_rfl) (fun (i : Nat) (v : Value) (W : World) => match i with | 0 => v = .slice (some ⟨b, off, none⟩) js.length cap | 1 => v = .bool true | 2 => v = .bool false | 3 => v = .bool false | 4 => v = jobV x | 5 => v = .bool true | 6 => v = .bool false | 7 => v = .bool false | 8 => v = .bool false | 9 => v = .int .i64 (k : Int) | 10 => v = .slice (some ⟨b, off, none⟩) js.length cap | 11 => v = .int .i64 js.length | 12 => v = .bool true | 13 => v = .bool true | 14 => v = jobV x | 15 => v = .slice (some ⟨b, off, none⟩) js.length cap | 16 => v = .int .i64 (k : Int) | 17 => v = .pointer (some ⟨b, off + k * 7, none⟩) | 18 => v = jobV js[k] | 19 => v = .bool r | 20 => v = .bool (!r) | 21 => v = .bool (!r) | 22 => v = .bool (!r) | _ => True) ?_ ?_ ?_
              · intro i v W W' hb h
                (try dsimp only at h ⊢)
                split at h <;> first | exact h | trivial
              · simp (config := { maxSteps := 4000000 }) only [List.map, putAll, Act.put, VE, List.setIfInBounds_toArray, List.set_cons_succ, List.set_cons_zero, Nat.reduceAdd]
                refine ⟨?_, ?_, ?_, ?_, ?_, ?_, ?_, ?_, ?_, ?_, ?_, ?_, ?_, ?_, ?_, ?_, ?_, ?_, ?_, ?_, ?_, ?_, ?_, trivial⟩
                all_goals intro vs W hB hr KK hK
                · rw [if_pos (by simp [Region.wanted])]
                  have HK := Lib.hid hK
                  clear hK hr
                  go_simp
                  exact HK.out _ W (Below.refl _ _) rfl
                · have r0 : vs 0 = .slice (some ⟨b, off, none⟩) js.length cap := hr 0 rfl
                  rw [if_pos (by simp [Region.wanted])]
                  simp only [r0] at hK ⊢
                  have HK := Lib.hid hK
                  have HB := Lib.hid hB
                  clear hK hr hB
                  go_simp
                  refine (refMay_any _ js _ (HV.out.ext (Ext.below HB.out))).mono ?_
                  rw [HM.out]
                  rintro e w5 ⟨rfl, hb5⟩
                  exact HK.out _ w5 hb5 rfl
                · have r1 : vs 1 = .bool true := hr 1 rfl
                  rw [if_pos (by simp [Region.wanted])]
                  simp only [r1] at hK ⊢
                  have HK := Lib.hid hK
                  clear hK hr
                  go_simp
                  exact HK.out _ W (Below.refl _ _) rfl
                · have r2 : vs 2 = .bool false := hr 2 rfl
                  rw [if_pos (by simp [Region.wanted])]
                  simp only [r2] at hK ⊢
                  have HK := Lib.hid hK
                  clear hK hr
                  go_simp
                  exact HK.out _ W (Below.refl _ _) rfl
                · have r3 : vs 3 = .bool false := hr 3 rfl
                  rw [if_pos (by simp [Region.wanted, yielded, r3])]
                  obtain ⟨x0, x1, x2, x3, x4, x5, x6⟩ := HX.out.ext (Ext.below hB)
                  unfold IntAt at x0 x1 x2 x3 x4 x5 x6
                  simp only [r3] at hK ⊢
                  have HK := Lib.hid hK
                  clear hK hr
                  go_simp
                  exact HK.out _ W (Below.refl _ _) rfl
                · have r3 : vs 3 = .bool false := hr 3 rfl
                  have r4 : vs 4 = jobV x := hr 4 rfl
                  rw [if_pos (by simp [Region.wanted, yielded, r3])]
                  simp only [r3, r4] at hK ⊢
                  have HK := Lib.hid hK
                  have HB := Lib.hid hB
                  clear hK hr hB
                  go_simp
                  refine (refJob_any x _).mono ?_
                  rw [HJ.out]
                  rintro e w5 ⟨rfl, hb5⟩
                  exact HK.out _ w5 hb5 rfl
                · have r3 : vs 3 = .bool false := hr 3 rfl
                  have r5 : vs 5 = .bool true := hr 5 rfl
                  rw [if_pos (by simp [Region.wanted, yielded, r3])]
                  simp only [r3, r5] at hK ⊢
                  have HK := Lib.hid hK
                  clear hK hr
                  go_simp
                  exact HK.out _ W (Below.refl _ _) rfl
                · have r3 : vs 3 = .bool false := hr 3 rfl
                  have r6 : vs 6 = .bool false := hr 6 rfl
                  rw [if_pos (by simp [Region.wanted])]
                  simp only [r3, r6] at hK ⊢
                  have HK := Lib.hid hK
                  clear hK hr
                  go_simp
                  exact HK.out _ W (Below.refl _ _) rfl
                · have r7 : vs 7 = .bool false := hr 7 rfl
                  rw [if_pos (by simp [Region.wanted])]
                  simp only [r7] at hK ⊢
                  have HK := Lib.hid hK
                  clear hK hr
                  go_simp
                  exact HK.out _ W (Below.refl _ _) rfl
                · have r8 : vs 8 = .bool false := hr 8 rfl
                  rw [if_pos (by simp [Region.wanted, yielded, r8])]
                  simp only [r8] at hK ⊢
                  have HK := Lib.hid hK
                  clear hK hr
                  go_simp
                  exact HK.out _ W (Below.refl _ _) rfl
                · have r8 : vs 8 = .bool false := hr 8 rfl
                  rw [if_pos (by simp [Region.wanted, yielded, r8])]
                  simp only [r8] at hK ⊢
                  have HK := Lib.hid hK
                  clear hK hr
                  go_simp
                  exact HK.out _ W (Below.refl _ _) rfl
                · have r8 : vs 8 = .bool false := hr 8 rfl
                  have r10 : vs 10 = .slice (some ⟨b, off, none⟩) js.length cap := hr 10 rfl
                  rw [if_pos (by simp [Region.wanted, yielded, r8])]
                  simp only [r8, r10] at hK ⊢
                  have HK := Lib.hid hK
                  clear hK hr
                  go_simp
                  exact HK.out _ W (Below.refl _ _) rfl
                · have r8 : vs 8 = .bool false := hr 8 rfl
                  have r9 : vs 9 = .int .i64 (k : Int) := hr 9 rfl
                  have r11 : vs 11 = .int .i64 js.length := hr 11 rfl
                  rw [if_pos (by simp [Region.wanted, yielded, r8])]
                  simp only [r8, r9, r11] at hK ⊢
                  have HK := Lib.hid hK
                  clear hK hr
                  go_simp
                  exact HK.out _ W (Below.refl _ _) rfl
                · have r8 : vs 8 = .bool false := hr 8 rfl
                  have r12 : vs 12 = .bool true := hr 12 rfl
                  rw [if_pos (by simp [Region.wanted, yielded, r8])]
                  simp only [r8, r12] at hK ⊢
                  have HK := Lib.hid hK
                  clear hK hr
                  go_simp
                  exact HK.out _ W (Below.refl _ _) rfl
                · have r13 : vs 13 = .bool true := hr 13 rfl
                  rw [if_pos (by simp [Region.wanted, yielded, r13])]
                  obtain ⟨x0, x1, x2, x3, x4, x5, x6⟩ := HX.out.ext (Ext.below hB)
                  unfold IntAt at x0 x1 x2 x3 x4 x5 x6
                  simp only [r13] at hK ⊢
                  have HK := Lib.hid hK
                  clear hK hr
                  go_simp
                  exact HK.out _ W (Below.refl _ _) rfl
                · have r13 : vs 13 = .bool true := hr 13 rfl
                  rw [if_pos (by simp [Region.wanted, yielded, r13])]
                  simp only [r13] at hK ⊢
                  have HK := Lib.hid hK
                  clear hK hr
                  go_simp
                  exact HK.out _ W (Below.refl _ _) rfl
                · have r13 : vs 13 = .bool true := hr 13 rfl
                  rw [if_pos (by simp [Region.wanted, yielded, r13])]
                  simp only [r13] at hK ⊢
                  have HK := Lib.hid hK
                  clear hK hr
                  go_simp
                  exact HK.out _ W (Below.refl _ _) rfl
                · have r13 : vs 13 = .bool true := hr 13 rfl
                  have r15 : vs 15 = .slice (some ⟨b, off, none⟩) js.length cap := hr 15 rfl
                  have r16 : vs 16 = .int .i64 (k : Int) := hr 16 rfl
                  rw [if_pos (by simp [Region.wanted, yielded, r13])]
                  simp only [r13, r15, r16] at hK ⊢
                  have HK := Lib.hid hK
                  clear hK hr
                  go_simp
                  exact HK.out _ W (Below.refl _ _) rfl
                · have r13 : vs 13 = .bool true := hr 13 rfl
                  have r17 : vs 17 = .pointer (some ⟨b, off + k * 7, none⟩) := hr 17 rfl
                  rw [if_pos (by simp [Region.wanted, yielded, r13])]
                  obtain ⟨y0, y1, y2, y3, y4, y5, y6⟩ := HY.out.ext (Ext.below hB)
                  unfold IntAt at y0 y1 y2 y3 y4 y5 y6
                  simp only [r13, r17] at hK ⊢
                  have HK := Lib.hid hK
                  clear hK hr
                  go_simp
                  exact HK.out _ W (Below.refl _ _) rfl
                · have r13 : vs 13 = .bool true := hr 13 rfl
                  have r14 : vs 14 = jobV x := hr 14 rfl
                  have r18 : vs 18 = jobV js[k] := hr 18 rfl
                  rw [if_pos (by simp [Region.wanted, yielded, r13])]
                  simp only [r13, r14, r18] at hK ⊢
                  have HK := Lib.hid hK
                  have HB := Lib.hid hB
                  clear hK hr hB
                  go_simp
                  refine (ahead_any x js[k] _).mono ?_
                  rw [← HR.out]
                  rintro e w5 ⟨rfl, hb5⟩
                  exact HK.out _ w5 hb5 rfl
                · have r13 : vs 13 = .bool true := hr 13 rfl
                  have r19 : vs 19 = .bool r := hr 19 rfl
                  rw [if_pos (by simp [Region.wanted, yielded, r13])]
                  simp only [r13, r19] at hK ⊢
                  have HK := Lib.hid hK
                  clear hK hr
                  go_simp
                  exact HK.out _ W (Below.refl _ _) rfl
                · have r8 : vs 8 = .bool false := hr 8 rfl
                  have r13 : vs 13 = .bool true := hr 13 rfl
                  have r20 : vs 20 = .bool (!r) := hr 20 rfl
                  rw [if_pos (by simp [Region.wanted, yielded, r8])]
                  simp only [r8, r13, r20] at hK ⊢
                  have HK := Lib.hid hK
                  clear hK hr
                  go_simp
                  exact HK.out _ W (Below.refl _ _) rfl
                · have r8 : vs 8 = .bool false := hr 8 rfl
                  have r21 : vs 21 = .bool (!r) := hr 21 rfl
                  rw [if_pos (by simp [Region.wanted])]
                  simp only [r8, r21] at hK ⊢
                  have HK := Lib.hid hK
                  clear hK hr
                  go_simp
                  exact HK.out _ W (Below.refl _ _) rfl
              · intro vs W hB hV
                simp only [List.map, putAll, Act.put, List.setIfInBounds_toArray, List.set_cons_succ, List.set_cons_zero, Nat.reduceAdd]
                have r0 : vs 0 = .slice (some ⟨b, off, none⟩) js.length cap := hV 0 (by simp)
                have r1 : vs 1 = .bool true := hV 1 (by simp)
                have r2 : vs 2 = .bool false := hV 2 (by simp)
                have r3 : vs 3 = .bool false := hV 3 (by simp)
                have r4 : vs 4 = jobV x := hV 4 (by simp)
                have r5 : vs 5 = .bool true := hV 5 (by simp)
                have r6 : vs 6 = .bool false := hV 6 (by simp)
                have r7 : vs 7 = .bool false := hV 7 (by simp)
                have r8 : vs 8 = .bool false := hV 8 (by simp)
                have r9 : vs 9 = .int .i64 (k : Int) := hV 9 (by simp)
                have r10 : vs 10 = .slice (some ⟨b, off, none⟩) js.length cap := hV 10 (by simp)
                have r11 : vs 11 = .int .i64 js.length := hV 11 (by simp)
                have r12 : vs 12 = .bool true := hV 12 (by simp)
                have r13 : vs 13 = .bool true := hV 13 (by simp)
                have r14 : vs 14 = jobV x := hV 14 (by simp)
                have r15 : vs 15 = .slice (some ⟨b, off, none⟩) js.length cap := hV 15 (by simp)
                have r16 : vs 16 = .int .i64 (k : Int) := hV 16 (by simp)
                have r17 : vs 17 = .pointer (some ⟨b, off + k * 7, none⟩) := hV 17 (by simp)
                have r18 : vs 18 = jobV js[k] := hV 18 (by simp)
                have r19 : vs 19 = .bool r := hV 19 (by simp)
                have r20 : vs 20 = .bool (!r) := hV 20 (by simp)
                have r21 : vs 21 = .bool (!r) := hV 21 (by simp)
                have r22 : vs 22 = .bool (!r) := hV 22 (by simp)
                simp only [r0, r1, r2, r3, r4, r5, r6, r7, r8, r9, r10, r11, r12, r13, r14, r15, r16, r17, r18, r19, r20, r21, r22]
                clear r0 r1 r2 r3 r4 r5 r6 r7 r8 r9 r10 r11 r12 r13 r14 r15 r16 r17 r18 r19 r20 r21 r22
                cases r
                · have HE := Lib.hid (show putE js x = 1200 by unfold putE; rw [if_neg (by rw [HM.out, HJ.out]; simp), if_pos (show hit js x = true from HH.out)])
                  have HB3 := Lib.hid (bthen HB2.out hB)
                  clear hB hV
                  go_wp2_with fail
                  go_ret2
                  exact ⟨_, (by rw [HE.out]; rfl), (fun _ => rfl), (fun h => absurd (HE.out.symm.trans h) (by decide)), HB3.out⟩
                · have HB3 := Lib.hid (bthen HB2.out hB)
                  have HX3 := Lib.hid (HX.out.ext (Ext.below hB))
                  have HV3 := Lib.hid (HV.out.ext (Ext.below hB))
                  clear hB hV
                  by_cases h16 : js.length = 16
                  · have HE := Lib.hid (show putE js x = 1201 by unfold putE; rw [if_neg (by rw [HM.out, HJ.out]; simp), if_neg (by rw [HH.out]; decide), if_pos h16])
                    have h16' : ((js.length : Int) == 16) = true := by simp [h16]
                    clear h16
                    go_wp2_with fail
                    go_ret2
                    exact ⟨_, (by rw [HE.out]; rfl), (fun _ => rfl), (fun h => absurd (HE.out.symm.trans h) (by decide)), HB3.out⟩
                  · have HE := Lib.hid (show putE js x = 0 by unfold putE; rw [if_neg (by rw [HM.out, HJ.out]; simp), if_neg (by rw [HH.out]; decide), if_neg h16])
                    have h16' : ((js.length : Int) == 16) = false := by simp; omega
                    clear h16
                    have hpl : k ≤ js.length := by omega
                    have hn1 : (js.take k).length = k := by rw [List.length_take]; omega
                    have HS1 := Lib.hid (flatJob.src (jobs_take (HV3.out.ext (Ext.alloc W (.cells #[] 24))) hpl))
                    rw [hn1] at HS1
                    have c1 : (0 : Int) ≤ (k : Int) := by omega
                    have c2 : (k : Int) ≤ (cap : Int) := by omega
                    have c3 : (k : Int) ≤ (js.length : Int) := by omega
                    go_wp2_with (at_builtin; refine wpList_onto _ rfl (.tmp 48) (.tmp 51) 22 rfl W.heap.size 24 _ 7 56 Try.underlying22 infoJob rfl (by decide) (.slice (some ⟨W.heap.size, 0, none⟩) 0 0) 0 [] rfl (own_lit W _ _) k _ HS1.out (by rw [flat_len _ _ flatJob.len, hn1]) (flat_one flatJob _) (by simp only [maxLen] at *; omega) (by omega) (by simp) ?_)
                    intro v1 w4 hown hg
                    have HO4 := Lib.hid (show JobRow w4 W.heap.size v1 (js.take k) by unfold JobRow; rw [hn1]; simpa using hown)
                    have hb4 : Below W.heap.size W w4 := (balloc W (.cells #[] 24)).grown hg (by simp) (fun k hk => by simp [Value.ownBlock] at hk; omega)
                    have HB4 := Lib.hid (bthen HB3.out hb4)
                    have HX4 := Lib.hid (HX3.out.ext (Ext.below hb4))
                    have HV4 := Lib.hid (HV3.out.ext (Ext.below hb4))
                    have HW4 := Lib.hid hb4
                    clear hown hg hb4
                    obtain ⟨x0, x1, x2, x3, x4, x5, x6⟩ := HX4.out
                    unfold IntAt at x0 x1 x2 x3 x4 x5 x6
                    go_wp2_with (at_builtin; refine append_elem rfl (.tmp 53) (.tmp 55) 22 rfl W.heap.size 24 _ 7 56 Try.underlying22 infoJob rfl (by decide) v1 _ _ rfl HO4.out (jobCells x) _ rfl rfl rfl rfl (by rw [hn1]; omega) (by rw [hn1]; omega) HW4.out.size ?_)
                    intro v2 w5 hown hbel hg
                    have hn2 : (js.take k ++ [x]).length = k + 1 := by rw [List.length_append, hn1]; rfl
                    have HO5 : Hid (JobRow w5 W.heap.size v2 (js.take k ++ [x])) := Lib.hid (by first | exact JobRow.snoc rfl hown | exact JobRow.snoc hn1.symm hown)
                    have HW5 := Lib.hid (HW4.out.trans hbel)
                    have HB5 := Lib.hid (bthen HB3.out HW5.out)
                    have HV5 := Lib.hid (HV3.out.ext (Ext.below HW5.out))
                    clear hown hg hbel x0 x1 x2 x3 x4 x5 x6
                    have c4 : ¬ cap = k := by omega
                    have hn3 : (js.drop k).length = js.length - k := List.length_drop
                    have HS5 := Lib.hid (flatJob.src (jobs_drop HV5.out hpl))
                    rw [hn3] at HS5
                    go_wp2_with (at_builtin; refine wpList_onto _ rfl (.tmp 57) (.tmp 60) 22 rfl W.heap.size 24 _ 7 56 Try.underlying22 infoJob rfl (by decide) v2 _ _ rfl HO5.out (js.length - k) _ HS5.out (by rw [flat_len _ _ flatJob.len, hn3]) (flat_one flatJob _) (by rw [hn2]; simp only [maxLen] at *; omega) (by rw [hn2]; omega) HW5.out.size ?_)
                    intro v3 w6 hown hg
                    have hb6 : Below W.heap.size W w6 := HW5.out.grown hg HW5.out.size (fun q hq => (HO5.out.lt q hq).1)
                    have HB6 := Lib.hid (bthen HB3.out hb6)
                    have HN := Lib.hid (show JobRow w6 w.heap.size v3 (putL js x) from own_lower (by
                      have e : (putL js x).length = (js.take k ++ [x]).length + (js.length - k) := by unfold putL; rw [HP.out, List.length_append, hn3]
                      rw [e, show putL js x = js.take k ++ [x] ++ js.drop k by unfold putL; rw [HP.out], List.flatMap_append]
                      first | exact hown | simpa [hn1] using hown) HB3.out.size)
                    obtain ⟨va, vc, rfl⟩ := own_shape hown
                    clear hown hg hb6
                    go_wp2_with fail
                    go_ret2
                    exact ⟨_, (by rw [HE.out]; rfl), (fun h => absurd HE.out h), (fun _ => HN.out), HB6.out⟩
            · have hj : jobMay x = false := by simpa using hj
              have HJ := Lib.hid hj
              have HE := Lib.hid (show putE js x = 1200 by unfold putE; rw [if_pos (.inr hj)])
              clear hm hj
              refine region_v rfl (by kernel_rfl) (fun (i : Nat) (v : Value) (W : World) => match i with | 0 => v = .slice (some ⟨b, off, none⟩) js.length cap | 1 => v = .bool true | 2 => v = .bool false | 3 => v = .bool false | 4 => v = jobV x | 5 => v = .bool false | 6 => v = .bool true | 7 => v = .bool true | 8 => v = .bool true | 9 => v = undef | 10 => v = undef | 11 => v = undef | 12 => v = undef | 13 => v = undef | 14 => v = undef | 15 => v = undef | 16 => v = undef | 17 => v = undef | 18 => v = undef | 19 => v = undef | 20 => v = undef | 21 => v = undef | 22 => v = .bool true | _ => True) ?_ ?_ ?_
              · intro i v W W' hb h
                (try dsimp only at h ⊢)
                split at h <;> first | exact h | trivial
              · simp (config := { maxSteps := 4000000 }) only [List.map, putAll, Act.put, VE, List.setIfInBounds_toArray, List.set_cons_succ, List.set_cons_zero, Nat.reduceAdd]
                refine ⟨?_, ?_, ?_, ?_, ?_, ?_, ?_, ?_, ?_, ?_, ?_, ?_, ?_, ?_, ?_, ?_, ?_, ?_, ?_, ?_, ?_, ?_, ?_, trivial⟩
                all_goals intro vs W hB hr KK hK
                · rw [if_pos (by simp [Region.wanted])]
                  have HK := Lib.hid hK
                  clear hK hr
                  go_simp
                  exact HK.out _ W (Below.refl _ _) rfl
                · have r0 : vs 0 = .slice (some ⟨b, off, none⟩) js.length cap := hr 0 rfl
                  rw [if_pos (by simp [Region.wanted])]
                  simp only [r0] at hK ⊢
                  have HK := Lib.hid hK
                  have HB := Lib.hid hB
                  clear hK hr hB
                  go_simp
                  refine (refMay_any _ js _ (HV.out.ext (Ext.below HB.out))).mono ?_
                  rw [HM.out]
                  rintro e w5 ⟨rfl, hb5⟩
                  exact HK.out _ w5 hb5 rfl
                · have r1 : vs 1 = .bool true := hr 1 rfl
                  rw [if_pos (by simp [Region.wanted])]
                  simp only [r1] at hK ⊢
                  have HK := Lib.hid hK
                  clear hK hr
                  go_simp
                  exact HK.out _ W (Below.refl _ _) rfl
                · have r2 : vs 2 = .bool false := hr 2 rfl
                  rw [if_pos (by simp [Region.wanted])]
                  simp only [r2] at hK ⊢
                  have HK := Lib.hid hK
                  clear hK hr
                  go_simp
                  exact HK.out _ W (Below.refl _ _) rfl
                · have r3 : vs 3 = .bool false := hr 3 rfl
                  rw [if_pos (by simp [Region.wanted, yielded, r3])]
                  obtain ⟨x0, x1, x2, x3, x4, x5, x6⟩ := HX.out.ext (Ext.below hB)
                  unfold IntAt at x0 x1 x2 x3 x4 x5 x6
                  simp only [r3] at hK ⊢
                  have HK := Lib.hid hK
                  clear hK hr
                  go_simp
                  exact HK.out _ W (Below.refl _ _) rfl
                · have r3 : vs 3 = .bool false := hr 3 rfl
                  have r4 : vs 4 = jobV x := hr 4 rfl
                  rw [if_pos (by simp [Region.wanted, yielded, r3])]
                  simp only [r3, r4] at hK ⊢
                  have HK := Lib.hid hK
                  have HB := Lib.hid hB
                  clear hK hr hB
                  go_simp
                  refine (refJob_any x _).mono ?_
                  rw [HJ.out]
                  rintro e w5 ⟨rfl, hb5⟩
                  exact HK.out _ w5 hb5 rfl
                · have r3 : vs 3 = .bool false := hr 3 rfl
                  have r5 : vs 5 = .bool false := hr 5 rfl
                  rw [if_pos (by simp [Region.wanted, yielded, r3])]
                  simp only [r3, r5] at hK ⊢
                  have HK := Lib.hid hK
                  clear hK hr
                  go_simp
                  exact HK.out _ W (Below.refl _ _) rfl
                · have r3 : vs 3 = .bool false := hr 3 rfl
                  have r6 : vs 6 = .bool true := hr 6 rfl
                  rw [if_pos (by simp [Region.wanted])]
                  simp only [r3, r6] at hK ⊢
                  have HK := Lib.hid hK
                  clear hK hr
                  go_simp
                  exact HK.out _ W (Below.refl _ _) rfl
                · have r7 : vs 7 = .bool true := hr 7 rfl
                  rw [if_pos (by simp [Region.wanted])]
                  simp only [r7] at hK ⊢
                  have HK := Lib.hid hK
                  clear hK hr
                  go_simp
                  exact HK.out _ W (Below.refl _ _) rfl
                · have r8 : vs 8 = .bool true := hr 8 rfl
                  rw [if_neg (by simp [Region.wanted, yielded, r8])]
                  exact hK undef W (Below.refl _ _) rfl
                · have r8 : vs 8 = .bool true := hr 8 rfl
                  rw [if_neg (by simp [Region.wanted, yielded, r8])]
                  exact hK undef W (Below.refl _ _) rfl
                · have r8 : vs 8 = .bool true := hr 8 rfl
                  rw [if_neg (by simp [Region.wanted, yielded, r8])]
                  exact hK undef W (Below.refl _ _) rfl
                · have r8 : vs 8 = .bool true := hr 8 rfl
                  rw [if_neg (by simp [Region.wanted, yielded, r8])]
                  exact hK undef W (Below.refl _ _) rfl
                · have r8 : vs 8 = .bool true := hr 8 rfl
                  rw [if_neg (by simp [Region.wanted, yielded, r8])]
                  exact hK undef W (Below.refl _ _) rfl
                · have r13 : vs 13 = undef := hr 13 rfl
                  rw [if_neg (by simp [Region.wanted, yielded, r13, undef])]
                  exact hK undef W (Below.refl _ _) rfl
                · have r13 : vs 13 = undef := hr 13 rfl
                  rw [if_neg (by simp [Region.wanted, yielded, r13, undef])]
                  exact hK undef W (Below.refl _ _) rfl
                · have r13 : vs 13 = undef := hr 13 rfl
                  rw [if_neg (by simp [Region.wanted, yielded, r13, undef])]
                  exact hK undef W (Below.refl _ _) rfl
                · have r13 : vs 13 = undef := hr 13 rfl
                  rw [if_neg (by simp [Region.wanted, yielded, r13, undef])]
                  exact hK undef W (Below.refl _ _) rfl
                · have r13 : vs 13 = undef := hr 13 rfl
                  rw [if_neg (by simp [Region.wanted, yielded, r13, undef])]
                  exact hK undef W (Below.refl _ _) rfl
                · have r13 : vs 13 = undef := hr 13 rfl
                  rw [if_neg (by simp [Region.wanted, yielded, r13, undef])]
                  exact hK undef W (Below.refl _ _) rfl
                · have r13 : vs 13 = undef := hr 13 rfl
                  rw [if_neg (by simp [Region.wanted, yielded, r13, undef])]
                  exact hK undef W (Below.refl _ _) rfl
                · have r8 : vs 8 = .bool true := hr 8 rfl
                  rw [if_neg (by simp [Region.wanted, yielded, r8])]
                  exact hK undef W (Below.refl _ _) rfl
                · have r8 : vs 8 = .bool true := hr 8 rfl
                  have r21 : vs 21 = undef := hr 21 rfl
                  rw [if_pos (by simp [Region.wanted])]
                  simp only [r8, r21] at hK ⊢
                  have HK := Lib.hid hK
                  clear hK hr
                  go_simp
                  exact HK.out _ W (Below.refl _ _) rfl
              · intro vs W hB hV
                simp only [List.map, putAll, Act.put, List.setIfInBounds_toArray, List.set_cons_succ, List.set_cons_zero, Nat.reduceAdd]
                have r0 : vs 0 = .slice (some ⟨b, off, none⟩) js.length cap := hV 0 (by simp)
                have r1 : vs 1 = .bool true := hV 1 (by simp)
                have r2 : vs 2 = .bool false := hV 2 (by simp)
                have r3 : vs 3 = .bool false := hV 3 (by simp)
                have r4 : vs 4 = jobV x := hV 4 (by simp)
                have r5 : vs 5 = .bool false := hV 5 (by simp)
                have r6 : vs 6 = .bool true := hV 6 (by simp)
                have r7 : vs 7 = .bool true := hV 7 (by simp)
                have r8 : vs 8 = .bool true := hV 8 (by simp)
                have r9 : vs 9 = undef := hV 9 (by simp)
                have r10 : vs 10 = undef := hV 10 (by simp)
                have r11 : vs 11 = undef := hV 11 (by simp)
                have r12 : vs 12 = undef := hV 12 (by simp)
                have r13 : vs 13 = undef := hV 13 (by simp)
                have r14 : vs 14 = undef := hV 14 (by simp)
                have r15 : vs 15 = undef := hV 15 (by simp)
                have r16 : vs 16 = undef := hV 16 (by simp)
                have r17 : vs 17 = undef := hV 17 (by simp)
                have r18 : vs 18 = undef := hV 18 (by simp)
                have r19 : vs 19 = undef := hV 19 (by simp)
                have r20 : vs 20 = undef := hV 20 (by simp)
                have r21 : vs 21 = undef := hV 21 (by simp)
                have r22 : vs 22 = .bool true := hV 22 (by simp)
                simp only [r0, r1, r2, r3, r4, r5, r6, r7, r8, r9, r10, r11, r12, r13, r14, r15, r16, r17, r18, r19, r20, r21, r22]
                clear r0 r1 r2 r3 r4 r5 r6 r7 r8 r9 r10 r11 r12 r13 r14 r15 r16 r17 r18 r19 r20 r21 r22
                have HB3 := Lib.hid (bthen HB2.out hB)
                clear hB hV
                go_wp2_with fail
                go_ret2
                exact ⟨_, (by rw [HE.out]; rfl), (fun _ => rfl), (fun h => absurd (HE.out.symm.trans h) (by decide)), HB3.out⟩
          · have hm : jobsMay js = false := by simpa using hm
            have HM := Lib.hid hm
            have HE := Lib.hid (show putE js x = 1200 by unfold putE; rw [if_pos (.inl hm)])
            clear hm
            refine region_v rfl (by kernel_rfl) (fun (i : Nat) (v : Value) (W : World) => match i with | 0 => v = .slice (some ⟨b, off, none⟩) js.length cap | 1 => v = .bool false | 2 => v = .bool true | 3 => v = .bool true | 4 => v = undef | 5 => v = undef | 6 => v = undef | 7 => v = .bool true | 8 => v = .bool true | 9 => v = undef | 10 => v = undef | 11 => v = undef | 12 => v = undef | 13 => v = undef | 14 => v = undef | 15 => v = undef | 16 => v = undef | 17 => v = undef | 18 => v = undef | 19 => v = undef | 20 => v = undef | 21 => v = undef | 22 => v = .bool true | _ => True) ?_ ?_ ?_
            · intro i v W W' hb h
              (try dsimp only at h ⊢)
              split at h <;> first | exact h | trivial
            · simp (config := { maxSteps := 4000000 }) only [List.map, putAll, Act.put, VE, List.setIfInBounds_toArray, List.set_cons_succ, List.set_cons_zero, Nat.reduceAdd]
              refine ⟨?_, ?_, ?_, ?_, ?_, ?_, ?_, ?_, ?_, ?_, ?_, ?_, ?_, ?_, ?_, ?_, ?_, ?_, ?_, ?_, ?_, ?_, ?_, trivial⟩
              all_goals intro vs W hB hr KK hK
              · rw [if_pos (by simp [Region.wanted])]
                have HK := Lib.hid hK
                clear hK hr
                go_simp
                exact HK.out _ W (Below.refl _ _) rfl
              · have r0 : vs 0 = .slice (some ⟨b, off, none⟩) js.length cap := hr 0 rfl
                rw [if_pos (by simp [Region.wanted])]
                simp only [r0] at hK ⊢
                have HK := Lib.hid hK
                have HB := Lib.hid hB
                clear hK hr hB
                go_simp
                refine (refMay_any _ js _ (HV.out.ext (Ext.below HB.out))).mono ?_
                rw [HM.out]
                rintro e w5 ⟨rfl, hb5⟩
                exact HK.out _ w5 hb5 rfl
              · have r1 : vs 1 = .bool false := hr 1 rfl
                rw [if_pos (by simp [Region.wanted])]
                simp only [r1] at hK ⊢
                have HK := Lib.hid hK
                clear hK hr
                go_simp
                exact HK.out _ W (Below.refl _ _) rfl
              · have r2 : vs 2 = .bool true := hr 2 rfl
                rw [if_pos (by simp [Region.wanted])]
                simp only [r2] at hK ⊢
                have HK := Lib.hid hK
                clear hK hr
                go_simp
                exact HK.out _ W (Below.refl _ _) rfl
              · have r3 : vs 3 = .bool true := hr 3 rfl
                rw [if_neg (by simp [Region.wanted, yielded, r3])]
                exact hK undef W (Below.refl _ _) rfl
              · have r3 : vs 3 = .bool true := hr 3 rfl
                rw [if_neg (by simp [Region.wanted, yielded, r3])]
                exact hK undef W (Below.refl _ _) rfl
              · have r3 : vs 3 = .bool true := hr 3 rfl
                rw [if_neg (by simp [Region.wanted, yielded, r3])]
                exact hK undef W (Below.refl _ _) rfl
              · have r3 : vs 3 = .bool true := hr 3 rfl
                have r6 : vs 6 = undef := hr 6 rfl
                rw [if_pos (by simp [Region.wanted])]
                simp only [r3, r6] at hK ⊢
                have HK := Lib.hid hK
                clear hK hr
                go_simp
                exact HK.out _ W (Below.refl _ _) rfl
              · have r7 : vs 7 = .bool true := hr 7 rfl
                rw [if_pos (by simp [Region.wanted])]
                simp only [r7] at hK ⊢
                have HK := Lib.hid hK
                clear hK hr
                go_simp
                exact HK.out _ W (Below.refl _ _) rfl
              · have r8 : vs 8 = .bool true := hr 8 rfl
                rw [if_neg (by simp [Region.wanted, yielded, r8])]
                exact hK undef W (Below.refl _ _) rfl
              · have r8 : vs 8 = .bool true := hr 8 rfl
                rw [if_neg (by simp [Region.wanted, yielded, r8])]
                exact hK undef W (Below.refl _ _) rfl
              · have r8 : vs 8 = .bool true := hr 8 rfl
                rw [if_neg (by simp [Region.wanted, yielded, r8])]
                exact hK undef W (Below.refl _ _) rfl
              · have r8 : vs 8 = .bool true := hr 8 rfl
                rw [if_neg (by simp [Region.wanted, yielded, r8])]
                exact hK undef W (Below.refl _ _) rfl
              · have r8 : vs 8 = .bool true := hr 8 rfl
                rw [if_neg (by simp [Region.wanted, yielded, r8])]
                exact hK undef W (Below.refl _ _) rfl
              · have r13 : vs 13 = undef := hr 13 rfl
                rw [if_neg (by simp [Region.wanted, yielded, r13, undef])]
                exact hK undef W (Below.refl _ _) rfl
              · have r13 : vs 13 = undef := hr 13 rfl
                rw [if_neg (by simp [Region.wanted, yielded, r13, undef])]
                exact hK undef W (Below.refl _ _) rfl
              · have r13 : vs 13 = undef := hr 13 rfl
                rw [if_neg (by simp [Region.wanted, yielded, r13, undef])]
                exact hK undef W (Below.refl _ _) rfl
              · have r13 : vs 13 = undef := hr 13 rfl
                rw [if_neg (by simp [Region.wanted, yielded, r13, undef])]
                exact hK undef W (Below.refl _ _) rfl
              · have r13 : vs 13 = undef := hr 13 rfl
                rw [if_neg (by simp [Region.wanted, yielded, r13, undef])]
                exact hK undef W (Below.refl _ _) rfl
              · have r13 : vs 13 = undef := hr 13 rfl
                rw [if_neg (by simp [Region.wanted, yielded, r13, undef])]
                exact hK undef W (Below.refl _ _) rfl
              · have r13 : vs 13 = undef := hr 13 rfl
                rw [if_neg (by simp [Region.wanted, yielded, r13, undef])]
                exact hK undef W (Below.refl _ _) rfl
              · have r8 : vs 8 = .bool true := hr 8 rfl
                rw [if_neg (by simp [Region.wanted, yielded, r8])]
                exact hK undef W (Below.refl _ _) rfl
              · have r8 : vs 8 = .bool true := hr 8 rfl
                have r21 : vs 21 = undef := hr 21 rfl
                rw [if_pos (by simp [Region.wanted])]
                simp only [r8, r21] at hK ⊢
                have HK := Lib.hid hK
                clear hK hr
                go_simp
                exact HK.out _ W (Below.refl _ _) rfl
            · intro vs W hB hV
              simp only [List.map, putAll, Act.put, List.setIfInBounds_toArray, List.set_cons_succ, List.set_cons_zero, Nat.reduceAdd]
              have r0 : vs 0 = .slice (some ⟨b, off, none⟩) js.length cap := hV 0 (by simp)
              have r1 : vs 1 = .bool false := hV 1 (by simp)
              have r2 : vs 2 = .bool true := hV 2 (by simp)
              have r3 : vs 3 = .bool true := hV 3 (by simp)
              have r4 : vs 4 = undef := hV 4 (by simp)
              have r5 : vs 5 = undef := hV 5 (by simp)
              have r6 : vs 6 = undef := hV 6 (by simp)
              have r7 : vs 7 = .bool true := hV 7 (by simp)
              have r8 : vs 8 = .bool true := hV 8 (by simp)
              have r9 : vs 9 = undef := hV 9 (by simp)
              have r10 : vs 10 = undef := hV 10 (by simp)
              have r11 : vs 11 = undef := hV 11 (by simp)
              have r12 : vs 12 = undef := hV 12 (by simp)
              have r13 : vs 13 = undef := hV 13 (by simp)
              have r14 : vs 14 = undef := hV 14 (by simp)
              have r15 : vs 15 = undef := hV 15 (by simp)
              have r16 : vs 16 = undef := hV 16 (by simp)
              have r17 : vs 17 = undef := hV 17 (by simp)
              have r18 : vs 18 = undef := hV 18 (by simp)
              have r19 : vs 19 = undef := hV 19 (by simp)
              have r20 : vs 20 = undef := hV 20 (by simp)
              have r21 : vs 21 = undef := hV 21 (by simp)
              have r22 : vs 22 = .bool true := hV 22 (by simp)
              simp only [r0, r1, r2, r3, r4, r5, r6, r7, r8, r9, r10, r11, r12, r13, r14, r15, r16, r17, r18, r19, r20, r21, r22]
              clear r0 r1 r2 r3 r4 r5 r6 r7 r8 r9 r10 r11 r12 r13 r14 r15 r16 r17 r18 r19 r20 r21 r22
              have HB3 := Lib.hid (bthen HB2.out hB)
              clear hB hV
              go_wp2_with fail
              go_ret2
              exact ⟨_, (by rw [HE.out]; rfl), (fun _ => rfl), (fun h => absurd (HE.out.symm.trans h) (by decide)), HB3.out⟩
        · clear HX HY
          go_wp2_with fail
          go_roundw
          case rel => exact ⟨k + 1, by omega, by go_num, Lib.hid (fun j h hj => by
            by_cases e : j = k
            · subst e; exact HQ.out.symm
            · exact HD.out j h (by omega)), HW⟩
          case measure => simp [intOf]; omega
    · obtain rfl : k = js.length := by omega
      go_wp2_with fail
      refine region_v rfl (by kernel_rfl) (fun (i : Nat) (v : Value) (W : World) => match i with | 0 => v = .int .i64 (js.length : Int) | 1 => v = .slice a js.length cap | 2 => v = .int .i64 js.length | 3 => v = .bool false | 4 => v = .bool false | 5 => v = undef | 6 => v = undef | 7 => v = undef | 8 => v = undef | 9 => v = undef | 10 => v = undef | 11 => v = .bool false | _ => True) ?_ ?_ ?_
      · intro i v W W' hb h
        (try dsimp only at h ⊢)
        split at h <;> first | exact h | trivial
      · simp (config := { maxSteps := 4000000 }) only [List.map, putAll, Act.put, VE, List.setIfInBounds_toArray, List.set_cons_succ, List.set_cons_zero, Nat.reduceAdd]
        refine ⟨?_, ?_, ?_, ?_, ?_, ?_, ?_, ?_, ?_, ?_, ?_, ?_, trivial⟩
        all_goals intro vs W hB hr KK hK
        · rw [if_pos (by simp [Region.wanted])]
          have HK := Lib.hid hK
          clear hK hr
          go_simp
          exact HK.out _ W (Below.refl _ _) rfl
        · rw [if_pos (by simp [Region.wanted])]
          have HK := Lib.hid hK
          clear hK hr
          go_simp
          exact HK.out _ W (Below.refl _ _) rfl
        · have r1 : vs 1 = .slice a js.length cap := hr 1 rfl
          rw [if_pos (by simp [Region.wanted])]
          simp only [r1] at hK ⊢
          have HK := Lib.hid hK
          clear hK hr
          go_simp
          exact HK.out _ W (Below.refl _ _) rfl
        · have r0 : vs 0 = .int .i64 (js.length : Int) := hr 0 rfl
          have r2 : vs 2 = .int .i64 js.length := hr 2 rfl
          rw [if_pos (by simp [Region.wanted])]
          simp only [r0, r2] at hK ⊢
          have HK := Lib.hid hK
          clear hK hr
          go_simp
          exact HK.out _ W (Below.refl _ _) rfl
        · have r3 : vs 3 = .bool false := hr 3 rfl
          rw [if_pos (by simp [Region.wanted])]
          simp only [r3] at hK ⊢
          have HK := Lib.hid hK
          clear hK hr
          go_simp
          exact HK.out _ W (Below.refl _ _) rfl
        · have r4 : vs 4 = .bool false := hr 4 rfl
          rw [if_neg (by simp [Region.wanted, yielded, r4])]
          exact hK undef W (Below.refl _ _) rfl
        · have r4 : vs 4 = .bool false := hr 4 rfl
          rw [if_neg (by simp [Region.wanted, yielded, r4])]
          exact hK undef W (Below.refl _ _) rfl
        · have r4 : vs 4 = .bool false := hr 4 rfl
          rw [if_neg (by simp [Region.wanted, yielded, r4])]
          exact hK undef W (Below.refl _ _) rfl
        · have r4 : vs 4 = .bool false := hr 4 rfl
          rw [if_neg (by simp [Region.wanted, yielded, r4])]
          exact hK undef W (Below.refl _ _) rfl
        · have r4 : vs 4 = .bool false := hr 4 rfl
          rw [if_neg (by simp [Region.wanted, yielded, r4])]
          exact hK undef W (Below.refl _ _) rfl
        · have r4 : vs 4 = .bool false := hr 4 rfl
          rw [if_neg (by simp [Region.wanted, yielded, r4])]
          exact hK undef W (Below.refl _ _) rfl
        · have r4 : vs 4 = .bool false := hr 4 rfl
          have r10 : vs 10 = undef := hr 10 rfl
          rw [if_pos (by simp [Region.wanted])]
          simp only [r4, r10] at hK ⊢
          have HK := Lib.hid hK
          clear hK hr
          go_simp
          exact HK.out _ W (Below.refl _ _) rfl
      · intro vs W hB hV
        simp only [List.map, putAll, Act.put, List.setIfInBounds_toArray, List.set_cons_succ, List.set_cons_zero, Nat.reduceAdd]
        have r0 : vs 0 = .int .i64 (js.length : Int) := hV 0 (by simp)
        have r1 : vs 1 = .slice a js.length cap := hV 1 (by simp)
        have r2 : vs 2 = .int .i64 js.length := hV 2 (by simp)
        have r3 : vs 3 = .bool false := hV 3 (by simp)
        have r4 : vs 4 = .bool false := hV 4 (by simp)
        have r5 : vs 5 = undef := hV 5 (by simp)
        have r6 : vs 6 = undef := hV 6 (by simp)
        have r7 : vs 7 = undef := hV 7 (by simp)
        have r8 : vs 8 = undef := hV 8 (by simp)
        have r9 : vs 9 = undef := hV 9 (by simp)
        have r10 : vs 10 = undef := hV 10 (by simp)
        have r11 : vs 11 = .bool false := hV 11 (by simp)
        simp only [r0, r1, r2, r3, r4, r5, r6, r7, r8, r9, r10, r11]
        clear r0 r1 r2 r3 r4 r5 r6 r7 r8 r9 r10 r11
        have HB2 := Lib.hid (bthen HB1.out hB)
        have HX := Lib.hid (HX0.out.ext (Ext.below hB))
        have HV := Lib.hid (HV1.out.ext (Ext.below hB))
        have HP := Lib.hid (show pos js x = js.length from pos_eq (Nat.le_refl _) HD.out (fun h => absurd h (by omega)))
        obtain ⟨w2, hw2⟩ : ∃ w2, w2 = W := ⟨_, rfl⟩
        rw [← hw2] at HB2 HX HV ⊢
        clear hB hV hw2
        go_wp2_with fail
        by_cases hm : jobsMay js = true
        · have HM := Lib.hid hm
          by_cases hj : jobMay x = true
          · have HJ := Lib.hid hj
            clear hm hj
            have HH := Lib.hid (show hit js x = false by unfold hit; rw [HP.out, List.getElem?_eq_none (Nat.le_refl _)]; rfl)
            refine region_v rfl (by kernel_rfl) (fun (i : Nat) (v : Value) (W : World) => match i with | 0 => v = .slice a js.length cap | 1 => v = .bool true | 2 => v = .bool false | 3 => v = .bool false | 4 => v = jobV x | 5 => v = .bool true | 6 => v = .bool false | 7 => v = .bool false | 8 => v = .bool false | 9 => v = .int .i64 (js.length : Int) | 10 => v = .slice a js.length cap | 11 => v = .int .i64 js.length | 12 => v = .bool false | 13 => v = .bool false | 14 => v = undef | 15 => v = undef | 16 => v = undef | 17 => v = undef | 18 => v = undef | 19 => v = undef | 20 => v = undef | 21 => v = .bool false | 22 => v = .bool false | _ => True) ?_ ?_ ?_
            · intro i v W W' hb h
              (try dsimp only at h ⊢)
              split at h <;> first | exact h | trivial
            · simp (config := { maxSteps := 4000000 }) only [List.map, putAll, Act.put, VE, List.setIfInBounds_toArray, List.set_cons_succ, List.set_cons_zero, Nat.reduceAdd]
              refine ⟨?_, ?_, ?_, ?_, ?_, ?_, ?_, ?_, ?_, ?_, ?_, ?_, ?_, ?_, ?_, ?_, ?_, ?_, ?_, ?_, ?_, ?_, ?_, trivial⟩
              all_goals intro vs W hB hr KK hK
              · rw [if_pos (by simp [Region.wanted])]
                have HK := Lib.hid hK
                clear hK hr
                go_simp
                exact HK.out _ W (Below.refl _ _) rfl
              · have r0 : vs 0 = .slice a js.length cap := hr 0 rfl
                rw [if_pos (by simp [Region.wanted])]
                simp only [r0] at hK ⊢
                have HK := Lib.hid hK
                have HB := Lib.hid hB
                clear hK hr hB
                go_simp
                refine (refMay_any _ js _ (HV.out.ext (Ext.below HB.out))).mono ?_
                rw [HM.out]
                rintro e w5 ⟨rfl, hb5⟩
                exact HK.out _ w5 hb5 rfl
              · have r1 : vs 1 = .bool true := hr 1 rfl
                rw [if_pos (by simp [Region.wanted])]
                simp only [r1] at hK ⊢
                have HK := Lib.hid hK
                clear hK hr
                go_simp
                exact HK.out _ W (Below.refl _ _) rfl
              · have r2 : vs 2 = .bool false := hr 2 rfl
                rw [if_pos (by simp [Region.wanted])]
                simp only [r2] at hK ⊢
                have HK := Lib.hid hK
                clear hK hr
                go_simp
                exact HK.out _ W (Below.refl _ _) rfl
              · have r3 : vs 3 = .bool false := hr 3 rfl
                rw [if_pos (by simp [Region.wanted, yielded, r3])]
                obtain ⟨x0, x1, x2, x3, x4, x5, x6⟩ := HX.out.ext (Ext.below hB)
                unfold IntAt at x0 x1 x2 x3 x4 x5 x6
                simp only [r3] at hK ⊢
                have HK := Lib.hid hK
                clear hK hr
                go_simp
                exact HK.out _ W (Below.refl _ _) rfl
              · have r3 : vs 3 = .bool false := hr 3 rfl
                have r4 : vs 4 = jobV x := hr 4 rfl
                rw [if_pos (by simp [Region.wanted, yielded, r3])]
                simp only [r3, r4] at hK ⊢
                have HK := Lib.hid hK
                have HB := Lib.hid hB
                clear hK hr hB
                go_simp
                refine (refJob_any x _).mono ?_
                rw [HJ.out]
                rintro e w5 ⟨rfl, hb5⟩
                exact HK.out _ w5 hb5 rfl
              · have r3 : vs 3 = .bool false := hr 3 rfl
                have r5 : vs 5 = .bool true := hr 5 rfl
                rw [if_pos (by simp [Region.wanted, yielded, r3])]
                simp only [r3, r5] at hK ⊢
                have HK := Lib.hid hK
                clear hK hr
                go_simp
                exact HK.out _ W (Below.refl _ _) rfl
              · have r3 : vs 3 = .bool false := hr 3 rfl
                have r6 : vs 6 = .bool false := hr 6 rfl
                rw [if_pos (by simp [Region.wanted])]
                simp only [r3, r6] at hK ⊢
                have HK := Lib.hid hK
                clear hK hr
                go_simp
                exact HK.out _ W (Below.refl _ _) rfl
              · have r7 : vs 7 = .bool false := hr 7 rfl
                rw [if_pos (by simp [Region.wanted])]
                simp only [r7] at hK ⊢
                have HK := Lib.hid hK
                clear hK hr
                go_simp
                exact HK.out _ W (Below.refl _ _) rfl
              · have r8 : vs 8 = .bool false := hr 8 rfl
                rw [if_pos (by simp [Region.wanted, yielded, r8])]
                simp only [r8] at hK ⊢
                have HK := Lib.hid hK
                clear hK hr
                go_simp
                exact HK.out _ W (Below.refl _ _) rfl
              · have r8 : vs 8 = .bool false := hr 8 rfl
                rw [if_pos (by simp [Region.wanted, yielded, r8])]
                simp only [r8] at hK ⊢
                have HK := Lib.hid hK
                clear hK hr
                go_simp
                exact HK.out _ W (Below.refl _ _) rfl
              · have r8 : vs 8 = .bool false := hr 8 rfl
                have r10 : vs 10 = .slice a js.length cap := hr 10 rfl
                rw [if_pos (by simp [Region.wanted, yielded, r8])]
                simp only [r8, r10] at hK ⊢
                have HK := Lib.hid hK
                clear hK hr
                go_simp
                exact HK.out _ W (Below.refl _ _) rfl
              · have r8 : vs 8 = .bool false := hr 8 rfl
                have r9 : vs 9 = .int .i64 (js.length : Int) := hr 9 rfl
                have r11 : vs 11 = .int .i64 js.length := hr 11 rfl
                rw [if_pos (by simp [Region.wanted, yielded, r8])]
                simp only [r8, r9, r11] at hK ⊢
                have HK := Lib.hid hK
                clear hK hr
                go_simp
                exact HK.out _ W (Below.refl _ _) rfl
              · have r8 : vs 8 = .bool false := hr 8 rfl
                have r12 : vs 12 = .bool false := hr 12 rfl
                rw [if_pos (by simp [Region.wanted, yielded, r8])]
                simp only [r8, r12] at hK ⊢
                have HK := Lib.hid hK
                clear hK hr
                go_simp
                exact HK.out _ W (Below.refl _ _) rfl
              · have r13 : vs 13 = .bool false := hr 13 rfl
                rw [if_neg (by simp [Region.wanted, yielded, r13])]
                exact hK undef W (Below.refl _ _) rfl
              · have r13 : vs 13 = .bool false := hr 13 rfl
                rw [if_neg (by simp [Region.wanted, yielded, r13])]
                exact hK undef W (Below.refl _ _) rfl
              · have r13 : vs 13 = .bool false := hr 13 rfl
                rw [if_neg (by simp [Region.wanted, yielded, r13])]
                exact hK undef W (Below.refl _ _) rfl
              · have r13 : vs 13 = .bool false := hr 13 rfl
                rw [if_neg (by simp [Region.wanted, yielded, r13])]
                exact hK undef W (Below.refl _ _) rfl
              · have r13 : vs 13 = .bool false := hr 13 rfl
                rw [if_neg (by simp [Region.wanted, yielded, r13])]
                exact hK undef W (Below.refl _ _) rfl
              · have r13 : vs 13 = .bool false := hr 13 rfl
                rw [if_neg (by simp [Region.wanted, yielded, r13])]
                exact hK undef W (Below.refl _ _) rfl
              · have r13 : vs 13 = .bool false := hr 13 rfl
                rw [if_neg (by simp [Region.wanted, yielded, r13])]
                exact hK undef W (Below.refl _ _) rfl
              · have r8 : vs 8 = .bool false := hr 8 rfl
                have r13 : vs 13 = .bool false := hr 13 rfl
                have r20 : vs 20 = undef := hr 20 rfl
                rw [if_pos (by simp [Region.wanted, yielded, r8])]
                simp only [r8, r13, r20] at hK ⊢
                have HK := Lib.hid hK
                clear hK hr
                go_simp
                exact HK.out _ W (Below.refl _ _) rfl
              · have r8 : vs 8 = .bool false := hr 8 rfl
                have r21 : vs 21 = .bool false := hr 21 rfl
                rw [if_pos (by simp [Region.wanted])]
                simp only [r8, r21] at hK ⊢
                have HK := Lib.hid hK
                clear hK hr
                go_simp
                exact HK.out _ W (Below.refl _ _) rfl
            · intro vs W hB hV
              simp only [List.map, putAll, Act.put, List.setIfInBounds_toArray, List.set_cons_succ, List.set_cons_zero, Nat.reduceAdd]
              have r0 : vs 0 = .slice a js.length cap := hV 0 (by simp)
              have r1 : vs 1 = .bool true := hV 1 (by simp)
              have r2 : vs 2 = .bool false := hV 2 (by simp)
              have r3 : vs 3 = .bool false := hV 3 (by simp)
              have r4 : vs 4 = jobV x := hV 4 (by simp)
              have r5 : vs 5 = .bool true := hV 5 (by simp)
              have r6 : vs 6 = .bool false := hV 6 (by simp)
              have r7 : vs 7 = .bool false := hV 7 (by simp)
              have r8 : vs 8 = .bool false := hV 8 (by simp)
              have r9 : vs 9 = .int .i64 (js.length : Int) := hV 9 (by simp)
              have r10 : vs 10 = .slice a js.length cap := hV 10 (by simp)
              have r11 : vs 11 = .int .i64 js.length := hV 11 (by simp)
              have r12 : vs 12 = .bool false := hV 12 (by simp)
              have r13 : vs 13 = .bool false := hV 13 (by simp)
              have r14 : vs 14 = undef := hV 14 (by simp)
              have r15 : vs 15 = undef := hV 15 (by simp)
              have r16 : vs 16 = undef := hV 16 (by simp)
              have r17 : vs 17 = undef := hV 17 (by simp)
              have r18 : vs 18 = undef := hV 18 (by simp)
              have r19 : vs 19 = undef := hV 19 (by simp)
              have r20 : vs 20 = undef := hV 20 (by simp)
              have r21 : vs 21 = .bool false := hV 21 (by simp)
              have r22 : vs 22 = .bool false := hV 22 (by simp)
              simp only [r0, r1, r2, r3, r4, r5, r6, r7, r8, r9, r10, r11, r12, r13, r14, r15, r16, r17, r18, r19, r20, r21, r22]
              clear r0 r1 r2 r3 r4 r5 r6 r7 r8 r9 r10 r11 r12 r13 r14 r15 r16 r17 r18 r19 r20 r21 r22
              have HB3 := Lib.hid (bthen HB2.out hB)
              have HX3 := Lib.hid (HX.out.ext (Ext.below hB))
              have HV3 := Lib.hid (HV.out.ext (Ext.below hB))
              clear hB hV
              by_cases h16 : js.length = 16
              · have HE := Lib.hid (show putE js x = 1201 by unfold putE; rw [if_neg (by rw [HM.out, HJ.out]; simp), if_neg (by rw [HH.out]; decide), if_pos h16])
                have h16' : ((js.length : Int) == 16) = true := by simp [h16]
                clear h16
                go_wp2_with fail
                go_ret2
                exact ⟨_, (by rw [HE.out]; rfl), (fun _ => rfl), (fun h => absurd (HE.out.symm.trans h) (by decide)), HB3.out⟩
              · have HE := Lib.hid (show putE js x = 0 by unfold putE; rw [if_neg (by rw [HM.out, HJ.out]; simp), if_neg (by rw [HH.out]; decide), if_neg h16])
                have h16' : ((js.length : Int) == 16) = false := by simp; omega
                clear h16
                have hpl : js.length ≤ js.length := by omega
                have hn1 : (js.take js.length).length = js.length := by rw [List.length_take]; omega
                have HS1 := Lib.hid (flatJob.src (jobs_take (HV3.out.ext (Ext.alloc W (.cells #[] 24))) hpl))
                rw [hn1] at HS1
                have c1 : (0 : Int) ≤ (js.length : Int) := by omega
                have c2 : (js.length : Int) ≤ (cap : Int) := by omega
                have c3 : (js.length : Int) ≤ (js.length : Int) := by omega
                go_wp2_with (at_builtin; refine wpList_onto _ rfl (.tmp 48) (.tmp 51) 22 rfl W.heap.size 24 _ 7 56 Try.underlying22 infoJob rfl (by decide) (.slice (some ⟨W.heap.size, 0, none⟩) 0 0) 0 [] rfl (own_lit W _ _) js.length _ HS1.out (by rw [flat_len _ _ flatJob.len, hn1]) (flat_one flatJob _) (by simp only [maxLen] at *; omega) (by omega) (by simp) ?_)
                intro v1 w4 hown hg
                have HO4 := Lib.hid (show JobRow w4 W.heap.size v1 (js.take js.length) by unfold JobRow; rw [hn1]; simpa using hown)
                have hb4 : Below W.heap.size W w4 := (balloc W (.cells #[] 24)).grown hg (by simp) (fun k hk => by simp [Value.ownBlock] at hk; omega)
                have HB4 := Lib.hid (bthen HB3.out hb4)
                have HX4 := Lib.hid (HX3.out.ext (Ext.below hb4))
                have HV4 := Lib.hid (HV3.out.ext (Ext.below hb4))
                have HW4 := Lib.hid hb4
                clear hown hg hb4
                obtain ⟨x0, x1, x2, x3, x4, x5, x6⟩ := HX4.out
                unfold IntAt at x0 x1 x2 x3 x4 x5 x6
                go_wp2_with (at_builtin; refine append_elem rfl (.tmp 53) (.tmp 55) 22 rfl W.heap.size 24 _ 7 56 Try.underlying22 infoJob rfl (by decide) v1 _ _ rfl HO4.out (jobCells x) _ rfl rfl rfl rfl (by rw [hn1]; omega) (by rw [hn1]; omega) HW4.out.size ?_)
                intro v2 w5 hown hbel hg
                have hn2 : (js.take js.length ++ [x]).length = js.length + 1 := by rw [List.length_append, hn1]; rfl
                have HO5 : Hid (JobRow w5 W.heap.size v2 (js ++ [x])) := Lib.hid (by first | exact JobRow.snoc rfl hown | exact JobRow.snoc hn1.symm hown)
                have HW5 := Lib.hid (HW4.out.trans hbel)
                have HB5 := Lib.hid (bthen HB3.out HW5.out)
                have HV5 := Lib.hid (HV3.out.ext (Ext.below HW5.out))
                clear hown hg hbel x0 x1 x2 x3 x4 x5 x6
                have hn2' : (js ++ [x]).length = js.length + 1 := by simp
                by_cases c4 : cap = js.length
                all_goals
                  go_wp2_with (at_builtin; refine wpList_onto _ rfl (.tmp 57) (.tmp 60) 22 rfl W.heap.size 24 _ 7 56 Try.underlying22 infoJob rfl (by decide) v2 _ _ rfl HO5.out 0 [] (src_zero _ _ _) rfl (by simp) (by rw [hn2']; simp only [maxLen] at *; omega) (by rw [hn2']; omega) HW5.out.size ?_)
                  intro v3 w6 hown hg
                  have hb6 : Below W.heap.size W w6 := HW5.out.grown hg HW5.out.size (fun q hq => (HO5.out.lt q hq).1)
                  have HB6 := Lib.hid (bthen HB3.out hb6)
                  have HN := Lib.hid (show JobRow w6 w.heap.size v3 (putL js x) from own_lower (by
                    have e : putL js x = js ++ [x] := by unfold putL; rw [HP.out, List.take_length, List.drop_length, List.append_nil]
                    rw [e]
                    first | exact hown | simpa using hown) HB3.out.size)
                  obtain ⟨va, vc, rfl⟩ := own_shape hown
                  clear hown hg hb6
                  go_wp2_with fail
                  go_ret2
                  exact ⟨_, (by rw [HE.out]; rfl), (fun h => absurd HE.out h), (fun _ => HN.out), HB6.out⟩
          · have hj : jobMay x = false := by simpa using hj
            have HJ := Lib.hid hj
            have HE := Lib.hid (show putE js x = 1200 by unfold putE; rw [if_pos (.inr hj)])
            clear hm hj
            refine region_v rfl (by kernel_rfl) (fun (i : Nat) (v : Value) (W : World) => match i with | 0 => v = .slice a js.length cap | 1 => v = .bool true | 2 => v = .bool false | 3 => v = .bool false | 4 => v = jobV x | 5 => v = .bool false | 6 => v = .bool true | 7 => v = .bool true | 8 => v = .bool true | 9 => v = undef | 10 => v = undef | 11 => v = undef | 12 => v = undef | 13 => v = undef | 14 => v = undef | 15 => v = undef | 16 => v = undef | 17 => v = undef | 18 => v = undef | 19 => v = undef | 20 => v = undef | 21 => v = undef | 22 => v = .bool true | _ => True) ?_ ?_ ?_
            · intro i v W W' hb h
              (try dsimp only at h ⊢)
              split at h <;> first | exact h | trivial
            · simp (config := { maxSteps := 4000000 }) only [List.map, putAll, Act.put, VE, List.setIfInBounds_toArray, List.set_cons_succ, List.set_cons_zero, Nat.reduceAdd]
              refine ⟨?_, ?_, ?_, ?_, ?_, ?_, ?_, ?_, ?_, ?_, ?_, ?_, ?_, ?_, ?_, ?_, ?_, ?_, ?_, ?_, ?_, ?_, ?_, trivial⟩
              all_goals intro vs W hB hr KK hK
              · rw [if_pos (by simp [Region.wanted])]
                have HK := Lib.hid hK
                clear hK hr
                go_simp
                exact HK.out _ W (Below.refl _ _) rfl
              · have r0 : vs 0 = .slice a js.length cap := hr 0 rfl
                rw [if_pos (by simp [Region.wanted])]
                simp only [r0] at hK ⊢
                have HK := Lib.hid hK
                have HB := Lib.hid hB
                clear hK hr hB
                go_simp
                refine (refMay_any _ js _ (HV.out.ext (Ext.below HB.out))).mono ?_
                rw [HM.out]
                rintro e w5 ⟨rfl, hb5⟩
                exact HK.out _ w5 hb5 rfl
              · have r1 : vs 1 = .bool true := hr 1 rfl
                rw [if_pos (by simp [Region.wanted])]
                simp only [r1] at hK ⊢
                have HK := Lib.hid hK
                clear hK hr
                go_simp
                exact HK.out _ W (Below.refl _ _) rfl
              · have r2 : vs 2 = .bool false := hr 2 rfl
                rw [if_pos (by simp [Region.wanted])]
                simp only [r2] at hK ⊢
                have HK := Lib.hid hK
                clear hK hr
                go_simp
                exact HK.out _ W (Below.refl _ _) rfl
              · have r3 : vs 3 = .bool false := hr 3 rfl
                rw [if_pos (by simp [Region.wanted, yielded, r3])]
                obtain ⟨x0, x1, x2, x3, x4, x5, x6⟩ := HX.out.ext (Ext.below hB)
                unfold IntAt at x0 x1 x2 x3 x4 x5 x6
                simp only [r3] at hK ⊢
                have HK := Lib.hid hK
                clear hK hr
                go_simp
                exact HK.out _ W (Below.refl _ _) rfl
              · have r3 : vs 3 = .bool false := hr 3 rfl
                have r4 : vs 4 = jobV x := hr 4 rfl
                rw [if_pos (by simp [Region.wanted, yielded, r3])]
                simp only [r3, r4] at hK ⊢
                have HK := Lib.hid hK
                have HB := Lib.hid hB
                clear hK hr hB
                go_simp
                refine (refJob_any x _).mono ?_
                rw [HJ.out]
                rintro e w5 ⟨rfl, hb5⟩
                exact HK.out _ w5 hb5 rfl
              · have r3 : vs 3 = .bool false := hr 3 rfl
                have r5 : vs 5 = .bool false := hr 5 rfl
                rw [if_pos (by simp [Region.wanted, yielded, r3])]
                simp only [r3, r5] at hK ⊢
                have HK := Lib.hid hK
                clear hK hr
                go_simp
                exact HK.out _ W (Below.refl _ _) rfl
              · have r3 : vs 3 = .bool false := hr 3 rfl
                have r6 : vs 6 = .bool true := hr 6 rfl
                rw [if_pos (by simp [Region.wanted])]
                simp only [r3, r6] at hK ⊢
                have HK := Lib.hid hK
                clear hK hr
                go_simp
                exact HK.out _ W (Below.refl _ _) rfl
              · have r7 : vs 7 = .bool true := hr 7 rfl
                rw [if_pos (by simp [Region.wanted])]
                simp only [r7] at hK ⊢
                have HK := Lib.hid hK
                clear hK hr
                go_simp
                exact HK.out _ W (Below.refl _ _) rfl
              · have r8 : vs 8 = .bool true := hr 8 rfl
                rw [if_neg (by simp [Region.wanted, yielded, r8])]
                exact hK undef W (Below.refl _ _) rfl
              · have r8 : vs 8 = .bool true := hr 8 rfl
                rw [if_neg (by simp [Region.wanted, yielded, r8])]
                exact hK undef W (Below.refl _ _) rfl
              · have r8 : vs 8 = .bool true := hr 8 rfl
                rw [if_neg (by simp [Region.wanted, yielded, r8])]
                exact hK undef W (Below.refl _ _) rfl
              · have r8 : vs 8 = .bool true := hr 8 rfl
                rw [if_neg (by simp [Region.wanted, yielded, r8])]
                exact hK undef W (Below.refl _ _) rfl
              · have r8 : vs 8 = .bool true := hr 8 rfl
                rw [if_neg (by simp [Region.wanted, yielded, r8])]
                exact hK undef W (Below.refl _ _) rfl
              · have r13 : vs 13 = undef := hr 13 rfl
                rw [if_neg (by simp [Region.wanted, yielded, r13, undef])]
                exact hK undef W (Below.refl _ _) rfl
              · have r13 : vs 13 = undef := hr 13 rfl
                rw [if_neg (by simp [Region.wanted, yielded, r13, undef])]
                exact hK undef W (Below.refl _ _) rfl
              · have r13 : vs 13 = undef := hr 13 rfl
                rw [if_neg (by simp [Region.wanted, yielded, r13, undef])]
                exact hK undef W (Below.refl _ _) rfl
              · have r13 : vs 13 = undef := hr 13 rfl
                rw [if_neg (by simp [Region.wanted, yielded, r13, undef])]
                exact hK undef W (Below.refl _ _) rfl
              · have r13 : vs 13 = undef := hr 13 rfl
                rw [if_neg (by simp [Region.wanted, yielded, r13, undef])]
                exact hK undef W (Below.refl _ _) rfl
              · have r13 : vs 13 = undef := hr 13 rfl
                rw [if_neg (by simp [Region.wanted, yielded, r13, undef])]
                exact hK undef W (Below.refl _ _) rfl
              · have r13 : vs 13 = undef := hr 13 rfl
                rw [if_neg (by simp [Region.wanted, yielded, r13, undef])]
                exact hK undef W (Below.refl _ _) rfl
              · have r8 : vs 8 = .bool true := hr 8 rfl
                rw [if_neg (by simp [Region.wanted, yielded, r8])]
                exact hK undef W (Below.refl _ _) rfl
              · have r8 : vs 8 = .bool true := hr 8 rfl
                have r21 : vs 21 = undef := hr 21 rfl
                rw [if_pos (by simp [Region.wanted])]
                simp only [r8, r21] at hK ⊢
                have HK := Lib.hid hK
                clear hK hr
                go_simp
                exact HK.out _ W (Below.refl _ _) rfl
            · intro vs W hB hV
              simp only [List.map, putAll, Act.put, List.setIfInBounds_toArray, List.set_cons_succ, List.set_cons_zero, Nat.reduceAdd]
              have r0 : vs 0 = .slice a js.length cap := hV 0 (by simp)
              have r1 : vs 1 = .bool true := hV 1 (by simp)
              have r2 : vs 2 = .bool false := hV 2 (by simp)
              have r3 : vs 3 = .bool false := hV 3 (by simp)
              have r4 : vs 4 = jobV x := hV 4 (by simp)
              have r5 : vs 5 = .bool false := hV 5 (by simp)
              have r6 : vs 6 = .bool true := hV 6 (by simp)
              have r7 : vs 7 = .bool true := hV 7 (by simp)
              have r8 : vs 8 = .bool true := hV 8 (by simp)
              have r9 : vs 9 = undef := hV 9 (by simp)
              have r10 : vs 10 = undef := hV 10 (by simp)
              have r11 : vs 11 = undef := hV 11 (by simp)
              have r12 : vs 12 = undef := hV 12 (by simp)
              have r13 : vs 13 = undef := hV 13 (by simp)
              have r14 : vs 14 = undef := hV 14 (by simp)
              have r15 : vs 15 = undef := hV 15 (by simp)
              have r16 : vs 16 = undef := hV 16 (by simp)
              have r17 : vs 17 = undef := hV 17 (by simp)
              have r18 : vs 18 = undef := hV 18 (by simp)
              have r19 : vs 19 = undef := hV 19 (by simp)
              have r20 : vs 20 = undef := hV 20 (by simp)
              have r21 : vs 21 = undef := hV 21 (by simp)
              have r22 : vs 22 = .bool true := hV 22 (by simp)
              simp only [r0, r1, r2, r3, r4, r5, r6, r7, r8, r9, r10, r11, r12, r13, r14, r15, r16, r17, r18, r19, r20, r21, r22]
              clear r0 r1 r2 r3 r4 r5 r6 r7 r8 r9 r10 r11 r12 r13 r14 r15 r16 r17 r18 r19 r20 r21 r22
              have HB3 := Lib.hid (bthen HB2.out hB)
              clear hB hV
              go_wp2_with fail
              go_ret2
              exact ⟨_, (by rw [HE.out]; rfl), (fun _ => rfl), (fun h => absurd (HE.out.symm.trans h) (by decide)), HB3.out⟩
        · have hm : jobsMay js = false := by simpa using hm
          have HM := Lib.hid hm
          have HE := Lib.hid (show putE js x = 1200 by unfold putE; rw [if_pos (.inl hm)])
          clear hm
          refine region_v rfl (by kernel_rfl) (fun (i : Nat) (v : Value) (W : World) => match i with | 0 => v = .slice a js.length cap | 1 => v = .bool false | 2 => v = .bool true | 3 => v = .bool true | 4 => v = undef | 5 => v = undef | 6 => v = undef | 7 => v = .bool true | 8 => v = .bool true | 9 => v = undef | 10 => v = undef | 11 => v = undef | 12 => v = undef | 13 => v = undef | 14 => v = undef | 15 => v = undef | 16 => v = undef | 17 => v = undef | 18 => v = undef | 19 => v = undef | 20 => v = undef | 21 => v = undef | 22 => v = .bool true | _ => True) ?_ ?_ ?_
          · intro i v W W' hb h
            (try dsimp only at h ⊢)
            split at h <;> first | exact h | trivial
          · simp (config := { maxSteps := 4000000 }) only [List.map, putAll, Act.put, VE, List.setIfInBounds_toArray, List.set_cons_succ, List.set_cons_zero, Nat.reduceAdd]
            refine ⟨?_, ?_, ?_, ?_, ?_, ?_, ?_, ?_, ?_, ?_, ?_, ?_, ?_, ?_, ?_, ?_, ?_, ?_, ?_, ?_, ?_, ?_, ?_, trivial⟩
            all_goals intro vs W hB hr KK hK
            · rw [if_pos (by simp [Region.wanted])]
              have HK := Lib.hid hK
              clear hK hr
              go_simp
              exact HK.out _ W (Below.refl _ _) rfl
            · have r0 : vs 0 = .slice a js.length cap := hr 0 rfl
              rw [if_pos (by simp [Region.wanted])]
              simp only [r0] at hK ⊢
              have HK := Lib.hid hK
              have HB := Lib.hid hB
              clear hK hr hB
              go_simp
              refine (refMay_any _ js _ (HV.out.ext (Ext.below HB.out))).mono ?_
              rw [HM.out]
              rintro e w5 ⟨rfl, hb5⟩
              exact HK.out _ w5 hb5 rfl
            · have r1 : vs 1 = .bool false := hr 1 rfl
              rw [if_pos (by simp [Region.wanted])]
              simp only [r1] at hK ⊢
              have HK := Lib.hid hK
              clear hK hr
              go_simp
              exact HK.out _ W (Below.refl _ _) rfl
            · have r2 : vs 2 = .bool true := hr 2 rfl
              rw [if_pos (by simp [Region.wanted])]
              simp only [r2] at hK ⊢
              have HK := Lib.hid hK
              clear hK hr
              go_simp
              exact HK.out _ W (Below.refl _ _) rfl
            · have r3 : vs 3 = .bool true := hr 3 rfl
              rw [if_neg (by simp [Region.wanted, yielded, r3])]
              exact hK undef W (Below.refl _ _) rfl
            · have r3 : vs 3 = .bool true := hr 3 rfl
              rw [if_neg (by simp [Region.wanted, yielded, r3])]
              exact hK undef W (Below.refl _ _) rfl
            · have r3 : vs 3 = .bool true := hr 3 rfl
              rw [if_neg (by simp [Region.wanted, yielded, r3])]
              exact hK undef W (Below.refl _ _) rfl
            · have r3 : vs 3 = .bool true := hr 3 rfl
              have r6 : vs 6 = undef := hr 6 rfl
              rw [if_pos (by simp [Region.wanted])]
              simp only [r3, r6] at hK ⊢
              have HK := Lib.hid hK
              clear hK hr
              go_simp
              exact HK.out _ W (Below.refl _ _) rfl
            · have r7 : vs 7 = .bool true := hr 7 rfl
              rw [if_pos (by simp [Region.wanted])]
              simp only [r7] at hK ⊢
              have HK := Lib.hid hK
              clear hK hr
              go_simp
              exact HK.out _ W (Below.refl _ _) rfl
            · have r8 : vs 8 = .bool true := hr 8 rfl
              rw [if_neg (by simp [Region.wanted, yielded, r8])]
              exact hK undef W (Below.refl _ _) rfl
            · have r8 : vs 8 = .bool true := hr 8 rfl
              rw [if_neg (by simp [Region.wanted, yielded, r8])]
              exact hK undef W (Below.refl _ _) rfl
            · have r8 : vs 8 = .bool true := hr 8 rfl
              rw [if_neg (by simp [Region.wanted, yielded, r8])]
              exact hK undef W (Below.refl _ _) rfl
            · have r8 : vs 8 = .bool true := hr 8 rfl
              rw [if_neg (by simp [Region.wanted, yielded, r8])]
              exact hK undef W (Below.refl _ _) rfl
            · have r8 : vs 8 = .bool true := hr 8 rfl
              rw [if_neg (by simp [Region.wanted, yielded, r8])]
              exact hK undef W (Below.refl _ _) rfl
            · have r13 : vs 13 = undef := hr 13 rfl
              rw [if_neg (by simp [Region.wanted, yielded, r13, undef])]
              exact hK undef W (Below.refl _ _) rfl
            · have r13 : vs 13 = undef := hr 13 rfl
              rw [if_neg (by simp [Region.wanted, yielded, r13, undef])]
              exact hK undef W (Below.refl _ _) rfl
            · have r13 : vs 13 = undef := hr 13 rfl
              rw [if_neg (by simp [Region.wanted, yielded, r13, undef])]
              exact hK undef W (Below.refl _ _) rfl
            · have r13 : vs 13 = undef := hr 13 rfl
              rw [if_neg (by simp [Region.wanted, yielded, r13, undef])]
              exact hK undef W (Below.refl _ _) rfl
            · have r13 : vs 13 = undef := hr 13 rfl
              rw [if_neg (by simp [Region.wanted, yielded, r13, undef])]
              exact hK undef W (Below.refl _ _) rfl
            · have r13 : vs 13 = undef := hr 13 rfl
              rw [if_neg (by simp [Region.wanted, yielded, r13, undef])]
              exact hK undef W (Below.refl _ _) rfl
            · have r13 : vs 13 = undef := hr 13 rfl
              rw [if_neg (by simp [Region.wanted, yielded, r13, undef])]
              exact hK undef W (Below.refl _ _) rfl
            · have r8 : vs 8 = .bool true := hr 8 rfl
              rw [if_neg (by simp [Region.wanted, yielded, r8])]
              exact hK undef W (Below.refl _ _) rfl
            · have r8 : vs 8 = .bool true := hr 8 rfl
              have r21 : vs 21 = undef := hr 21 rfl
              rw [if_pos (by simp [Region.wanted])]
              simp only [r8, r21] at hK ⊢
              have HK := Lib.hid hK
              clear hK hr
              go_simp
              exact HK.out _ W (Below.refl _ _) rfl
          · intro vs W hB hV
            simp only [List.map, putAll, Act.put, List.setIfInBounds_toArray, List.set_cons_succ, List.set_cons_zero, Nat.reduceAdd]
            have r0 : vs 0 = .slice a js.length cap := hV 0 (by simp)
            have r1 : vs 1 = .bool false := hV 1 (by simp)
            have r2 : vs 2 = .bool true := hV 2 (by simp)
            have r3 : vs 3 = .bool true := hV 3 (by simp)
            have r4 : vs 4 = undef := hV 4 (by simp)
            have r5 : vs 5 = undef := hV 5 (by simp)
            have r6 : vs 6 = undef := hV 6 (by simp)
            have r7 : vs 7 = .bool true := hV 7 (by simp)
            have r8 : vs 8 = .bool true := hV 8 (by simp)
            have r9 : vs 9 = undef := hV 9 (by simp)
            have r10 : vs 10 = undef := hV 10 (by simp)
            have r11 : vs 11 = undef := hV 11 (by simp)
            have r12 : vs 12 = undef := hV 12 (by simp)
            have r13 : vs 13 = undef := hV 13 (by simp)
            have r14 : vs 14 = undef := hV 14 (by simp)
            have r15 : vs 15 = undef := hV 15 (by simp)
            have r16 : vs 16 = undef := hV 16 (by simp)
            have r17 : vs 17 = undef := hV 17 (by simp)
            have r18 : vs 18 = undef := hV 18 (by simp)
            have r19 : vs 19 = undef := hV 19 (by simp)
            have r20 : vs 20 = undef := hV 20 (by simp)
            have r21 : vs 21 = undef := hV 21 (by simp)
            have r22 : vs 22 = .bool true := hV 22 (by simp)
            simp only [r0, r1, r2, r3, r4, r5, r6, r7, r8, r9, r10, r11, r12, r13, r14, r15, r16, r17, r18, r19, r20, r21, r22]
            clear r0 r1 r2 r3 r4 r5 r6 r7 r8 r9 r10 r11 r12 r13 r14 r15 r16 r17 r18 r19 r20 r21 r22
            have HB3 := Lib.hid (bthen HB2.out hB)
            clear hB hV
            go_wp2_with fail
            go_ret2
            exact ⟨_, (by rw [HE.out]; rfl), (fun _ => rfl), (fun h => absurd (HE.out.symm.trans h) (by decide)), HB3.out⟩
end Go.Proofs.Ytpjmceiegogobaa
