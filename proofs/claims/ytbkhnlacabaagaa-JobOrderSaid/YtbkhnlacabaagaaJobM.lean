/- The reference's JobsMay (printed by genjm.py). -/
import Derived.Test.YtbkhnlacabaagaaJobE
import Derived.Test.YtbkhnlacabaagaaLibA
set_option linter.unusedVariables false
set_option linter.unusedSimpArgs false
namespace Go.Proofs.Ytbkhnlacabaagaa
open Go.RowKit

set_option maxRecDepth 100000 in
set_option maxHeartbeats 8000000 in
theorem refMay_any (v : Value) (js : List Job) (w : World) (hv : JobsV w v js) :
    Calls Try.prog 78 #[v] w fun e w' => e = .returned (.bool (jobsMay js)) ∧ Below w.heap.size w w' := by
  obtain ⟨a, cap, rfl, h2, h3, h4, h5⟩ := hv
  have H := Lib.hid h5
  have hl : js.length ≤ 1000000000000000 := by omega
  clear h5
  go_enter Try.func78, Try.ntmps78
  go_wp2_with fail
  go_loopw [3] (fun i wr => ∃ k : Nat, k ≤ js.length ∧ i = .int .i64 k ∧ Hid (∀ i, i < k → okAt js i = true) ∧ Below w.heap.size w wr) (fun i _ => js.length - (intOf i).toNat)
  case atStart => exact ⟨0, by omega, rfl, Lib.hid (fun i h => by omega), Below.refl _ _⟩
  case round =>
    obtain ⟨k, hk, rfl, HD, hB⟩ := hrel
    have HBR := Lib.hid hB
    clear hB
    by_cases hlt : k < js.length
    · obtain ⟨b, off, rfl, hc⟩ := H.out (by intro h; rw [h] at hlt; simp at hlt)
      have HX := Lib.hid (JobAt.ext (Ext.below HBR.out) (hc k hlt))
      by_cases hj : jobMay js[k] = false
      · have HJ := Lib.hid hj
        have HN := Lib.hid (jobsMay_no hlt (okAt_job hlt hj))
        clear hj hc
        go_wp2_with fail
        refine region_v rfl (by kernel_rfl) (fun (i : Nat) (v : Value) (W : World) => match i with | 0 => v = .slice (some ⟨b, off, none⟩) js.length cap | 1 => v = .int .i64 (k : Int) | 2 => v = .pointer (some ⟨b, off + k * 7, none⟩) | 3 => v = jobV js[k] | 4 => v = .bool false | 5 => v = .bool true | 6 => v = .bool true | 7 => v = undef | 8 => v = undef | 9 => v = undef | 10 => v = undef | 11 => v = undef | 12 => v = undef | 13 => v = undef | 14 => v = undef | 15 => v = undef | 16 => v = undef | 17 => v = undef | 18 => v = undef | 19 => v = undef | 20 => v = undef | 21 => v = undef | 22 => v = .bool true | _ => True) ?_ ?_ ?_
        · intro i v W W' hb h
          (try dsimp only at h ⊢)
          split at h <;> first | exact h | trivial
        · simp (config := { maxSteps := 4000000 }) only [List.map, putAll, Act.put, VE, List.setIfInBounds_toArray, List.set_cons_succ, List.set_cons_zero, Nat.reduceAdd]
          refine ⟨?_, ?_, ?_, ?_, ?_, ?_, ?_, ?_, ?_, ?_, ?_, ?_, ?_, ?_, ?_, ?_, ?_, ?_, ?_, ?_, ?_, ?_, ?_, trivial⟩
          all_goals intro vs W hB hr KK hK
          · rw [if_pos (by simp [Region.wanted])]
            have HK := Lib.hid hK
            clear hK hr
            go_simp
            exact HK.out _ W (Below.refl _ _) rfl
          · rw [if_pos (by simp [Region.wanted])]
            have HK := Lib.hid hK
            clear hK hr
            go_simp
            exact HK.out _ W (Below.refl _ _) rfl
          · have r0 : vs 0 = .slice (some ⟨b, off, none⟩) js.length cap := hr 0 rfl
            have r1 : vs 1 = .int .i64 (k : Int) := hr 1 rfl
            rw [if_pos (by simp [Region.wanted])]
            simp only [r0, r1] at hK ⊢
            have HK := Lib.hid hK
            clear hK hr
            go_simp
            exact HK.out _ W (Below.refl _ _) rfl
          · have r2 : vs 2 = .pointer (some ⟨b, off + k * 7, none⟩) := hr 2 rfl
            rw [if_pos (by simp [Region.wanted])]
            obtain ⟨x0, x1, x2, x3, x4, x5, x6⟩ := HX.out.ext (Ext.below hB)
            unfold IntAt at x0 x1 x2 x3 x4 x5 x6
            simp only [r2] at hK ⊢
            have HK := Lib.hid hK
            clear hK hr
            go_simp
            exact HK.out _ W (Below.refl _ _) rfl
          · have r3 : vs 3 = jobV js[k] := hr 3 rfl
            rw [if_pos (by simp [Region.wanted])]
            simp only [r3] at hK ⊢
            have HK := Lib.hid hK
            have HB := Lib.hid hB
            clear hK hr hB
            go_simp
            refine (refJob_any js[k] _).mono ?_
            rw [HJ.out]
            rintro e w5 ⟨rfl, hb5⟩
            exact HK.out _ w5 hb5 rfl
          · have r4 : vs 4 = .bool false := hr 4 rfl
            rw [if_pos (by simp [Region.wanted])]
            simp only [r4] at hK ⊢
            have HK := Lib.hid hK
            clear hK hr
            go_simp
            exact HK.out _ W (Below.refl _ _) rfl
          · have r5 : vs 5 = .bool true := hr 5 rfl
            rw [if_pos (by simp [Region.wanted])]
            simp only [r5] at hK ⊢
            have HK := Lib.hid hK
            clear hK hr
            go_simp
            exact HK.out _ W (Below.refl _ _) rfl
          · have r6 : vs 6 = .bool true := hr 6 rfl
            rw [if_neg (by simp [Region.wanted, yielded, r6])]
            exact hK undef W (Below.refl _ _) rfl
          · have r6 : vs 6 = .bool true := hr 6 rfl
            rw [if_neg (by simp [Region.wanted, yielded, r6])]
            exact hK undef W (Below.refl _ _) rfl
          · have r6 : vs 6 = .bool true := hr 6 rfl
            rw [if_neg (by simp [Region.wanted, yielded, r6])]
            exact hK undef W (Below.refl _ _) rfl
          · have r9 : vs 9 = undef := hr 9 rfl
            rw [if_neg (by simp [Region.wanted, yielded, r9, undef])]
            exact hK undef W (Below.refl _ _) rfl
          · have r9 : vs 9 = undef := hr 9 rfl
            rw [if_neg (by simp [Region.wanted, yielded, r9, undef])]
            exact hK undef W (Below.refl _ _) rfl
          · have r9 : vs 9 = undef := hr 9 rfl
            rw [if_neg (by simp [Region.wanted, yielded, r9, undef])]
            exact hK undef W (Below.refl _ _) rfl
          · have r9 : vs 9 = undef := hr 9 rfl
            rw [if_neg (by simp [Region.wanted, yielded, r9, undef])]
            exact hK undef W (Below.refl _ _) rfl
          · have r9 : vs 9 = undef := hr 9 rfl
            rw [if_neg (by simp [Region.wanted, yielded, r9, undef])]
            exact hK undef W (Below.refl _ _) rfl
          · have r9 : vs 9 = undef := hr 9 rfl
            rw [if_neg (by simp [Region.wanted, yielded, r9, undef])]
            exact hK undef W (Below.refl _ _) rfl
          · have r9 : vs 9 = undef := hr 9 rfl
            rw [if_neg (by simp [Region.wanted, yielded, r9, undef])]
            exact hK undef W (Below.refl _ _) rfl
          · have r9 : vs 9 = undef := hr 9 rfl
            rw [if_neg (by simp [Region.wanted, yielded, r9, undef])]
            exact hK undef W (Below.refl _ _) rfl
          · have r9 : vs 9 = undef := hr 9 rfl
            rw [if_neg (by simp [Region.wanted, yielded, r9, undef])]
            exact hK undef W (Below.refl _ _) rfl
          · have r9 : vs 9 = undef := hr 9 rfl
            rw [if_neg (by simp [Region.wanted, yielded, r9, undef])]
            exact hK undef W (Below.refl _ _) rfl
          · have r9 : vs 9 = undef := hr 9 rfl
            rw [if_neg (by simp [Region.wanted, yielded, r9, undef])]
            exact hK undef W (Below.refl _ _) rfl
          · have r6 : vs 6 = .bool true := hr 6 rfl
            rw [if_neg (by simp [Region.wanted, yielded, r6])]
            exact hK undef W (Below.refl _ _) rfl
          · have r6 : vs 6 = .bool true := hr 6 rfl
            have r21 : vs 21 = undef := hr 21 rfl
            rw [if_pos (by simp [Region.wanted])]
            simp only [r6, r21] at hK ⊢
            have HK := Lib.hid hK
            clear hK hr
            go_simp
            exact HK.out _ W (Below.refl _ _) rfl
        · intro vs W hB hV
          simp only [List.map, putAll, Act.put, List.setIfInBounds_toArray, List.set_cons_succ, List.set_cons_zero, Nat.reduceAdd]
          have r0 : vs 0 = .slice (some ⟨b, off, none⟩) js.length cap := hV 0 (by simp)
          have r1 : vs 1 = .int .i64 (k : Int) := hV 1 (by simp)
          have r2 : vs 2 = .pointer (some ⟨b, off + k * 7, none⟩) := hV 2 (by simp)
          have r3 : vs 3 = jobV js[k] := hV 3 (by simp)
          have r4 : vs 4 = .bool false := hV 4 (by simp)
          have r5 : vs 5 = .bool true := hV 5 (by simp)
          have r6 : vs 6 = .bool true := hV 6 (by simp)
          have r7 : vs 7 = undef := hV 7 (by simp)
          have r8 : vs 8 = undef := hV 8 (by simp)
          have r9 : vs 9 = undef := hV 9 (by simp)
          have r10 : vs 10 = undef := hV 10 (by simp)
          have r11 : vs 11 = undef := hV 11 (by simp)
          have r12 : vs 12 = undef := hV 12 (by simp)
          have r13 : vs 13 = undef := hV 13 (by simp)
          have r14 : vs 14 = undef := hV 14 (by simp)
          have r15 : vs 15 = undef := hV 15 (by simp)
          have r16 : vs 16 = undef := hV 16 (by simp)
          have r17 : vs 17 = undef := hV 17 (by simp)
          have r18 : vs 18 = undef := hV 18 (by simp)
          have r19 : vs 19 = undef := hV 19 (by simp)
          have r20 : vs 20 = undef := hV 20 (by simp)
          have r21 : vs 21 = undef := hV 21 (by simp)
          have r22 : vs 22 = .bool true := hV 22 (by simp)
          simp only [r0, r1, r2, r3, r4, r5, r6, r7, r8, r9, r10, r11, r12, r13, r14, r15, r16, r17, r18, r19, r20, r21, r22]
          clear r0 r1 r2 r3 r4 r5 r6 r7 r8 r9 r10 r11 r12 r13 r14 r15 r16 r17 r18 r19 r20 r21 r22
          have HB5 := Lib.hid (bthen HBR.out hB)
          clear hB hV
          go_wp2_with fail
          go_ret
          exact ⟨ret_bool HN.out.symm, HB5.out⟩
      · have hj : jobMay js[k] = true := by simpa using hj
        have HJ := Lib.hid hj
        rcases k with _ | p
        · have HN := Lib.hid (okAt_first hlt hj)
          clear hj hc
          rw [Nat.zero_mul, Nat.add_zero] at HX
          go_wp2_with fail
          refine region_v rfl (by kernel_rfl) (fun (i : Nat) (v : Value) (W : World) => match i with | 0 => v = .slice (some ⟨b, off, none⟩) js.length cap | 1 => v = .int .i64 0 | 2 => v = .pointer (some ⟨b, off, none⟩) | 3 => v = jobV js[0] | 4 => v = .bool true | 5 => v = .bool false | 6 => v = .bool false | 7 => v = .int .i64 0 | 8 => v = .bool false | 9 => v = .bool false | 10 => v = undef | 11 => v = undef | 12 => v = undef | 13 => v = undef | 14 => v = undef | 15 => v = undef | 16 => v = undef | 17 => v = undef | 18 => v = undef | 19 => v = undef | 20 => v = undef | 21 => v = .bool false | 22 => v = .bool false | _ => True) ?_ ?_ ?_
          · intro i v W W' hb h
            (try dsimp only at h ⊢)
            split at h <;> first | exact h | trivial
          · simp (config := { maxSteps := 4000000 }) only [List.map, putAll, Act.put, VE, List.setIfInBounds_toArray, List.set_cons_succ, List.set_cons_zero, Nat.reduceAdd]
            refine ⟨?_, ?_, ?_, ?_, ?_, ?_, ?_, ?_, ?_, ?_, ?_, ?_, ?_, ?_, ?_, ?_, ?_, ?_, ?_, ?_, ?_, ?_, ?_, trivial⟩
            all_goals intro vs W hB hr KK hK
            · rw [if_pos (by simp [Region.wanted])]
              have HK := Lib.hid hK
              clear hK hr
              go_simp
              exact HK.out _ W (Below.refl _ _) rfl
            · rw [if_pos (by simp [Region.wanted])]
              have HK := Lib.hid hK
              clear hK hr
              go_simp
              exact HK.out _ W (Below.refl _ _) rfl
            · have r0 : vs 0 = .slice (some ⟨b, off, none⟩) js.length cap := hr 0 rfl
              have r1 : vs 1 = .int .i64 0 := hr 1 rfl
              rw [if_pos (by simp [Region.wanted])]
              simp only [r0, r1] at hK ⊢
              have HK := Lib.hid hK
              clear hK hr
              go_simp
              exact HK.out _ W (Below.refl _ _) rfl
            · have r2 : vs 2 = .pointer (some ⟨b, off, none⟩) := hr 2 rfl
              rw [if_pos (by simp [Region.wanted])]
              obtain ⟨x0, x1, x2, x3, x4, x5, x6⟩ := HX.out.ext (Ext.below hB)
              unfold IntAt at x0 x1 x2 x3 x4 x5 x6
              simp only [r2] at hK ⊢
              have HK := Lib.hid hK
              clear hK hr
              go_simp
              exact HK.out _ W (Below.refl _ _) rfl
            · have r3 : vs 3 = jobV js[0] := hr 3 rfl
              rw [if_pos (by simp [Region.wanted])]
              simp only [r3] at hK ⊢
              have HK := Lib.hid hK
              have HB := Lib.hid hB
              clear hK hr hB
              go_simp
              refine (refJob_any js[0] _).mono ?_
              rw [HJ.out]
              rintro e w5 ⟨rfl, hb5⟩
              exact HK.out _ w5 hb5 rfl
            · have r4 : vs 4 = .bool true := hr 4 rfl
              rw [if_pos (by simp [Region.wanted])]
              simp only [r4] at hK ⊢
              have HK := Lib.hid hK
              clear hK hr
              go_simp
              exact HK.out _ W (Below.refl _ _) rfl
            · have r5 : vs 5 = .bool false := hr 5 rfl
              rw [if_pos (by simp [Region.wanted])]
              simp only [r5] at hK ⊢
              have HK := Lib.hid hK
              clear hK hr
              go_simp
              exact HK.out _ W (Below.refl _ _) rfl
            · have r6 : vs 6 = .bool false := hr 6 rfl
              rw [if_pos (by simp [Region.wanted, yielded, r6])]
              simp only [r6] at hK ⊢
              have HK := Lib.hid hK
              clear hK hr
              go_simp
              exact HK.out _ W (Below.refl _ _) rfl
            · have r6 : vs 6 = .bool false := hr 6 rfl
              have r7 : vs 7 = .int .i64 0 := hr 7 rfl
              rw [if_pos (by simp [Region.wanted, yielded, r6])]
              simp only [r6, r7] at hK ⊢
              have HK := Lib.hid hK
              clear hK hr
              go_simp
              exact HK.out _ W (Below.refl _ _) rfl
            · have r6 : vs 6 = .bool false := hr 6 rfl
              have r8 : vs 8 = .bool false := hr 8 rfl
              rw [if_pos (by simp [Region.wanted, yielded, r6])]
              simp only [r6, r8] at hK ⊢
              have HK := Lib.hid hK
              clear hK hr
              go_simp
              exact HK.out _ W (Below.refl _ _) rfl
            · have r9 : vs 9 = .bool false := hr 9 rfl
              rw [if_neg (by simp [Region.wanted, yielded, r9])]
              exact hK undef W (Below.refl _ _) rfl
            · have r9 : vs 9 = .bool false := hr 9 rfl
              rw [if_neg (by simp [Region.wanted, yielded, r9])]
              exact hK undef W (Below.refl _ _) rfl
            · have r9 : vs 9 = .bool false := hr 9 rfl
              rw [if_neg (by simp [Region.wanted, yielded, r9])]
              exact hK undef W (Below.refl _ _) rfl
            · have r9 : vs 9 = .bool false := hr 9 rfl
              rw [if_neg (by simp [Region.wanted, yielded, r9])]
              exact hK undef W (Below.refl _ _) rfl
            · have r9 : vs 9 = .bool false := hr 9 rfl
              rw [if_neg (by simp [Region.wanted, yielded, r9])]
              exact hK undef W (Below.refl _ _) rfl
            · have r9 : vs 9 = .bool false := hr 9 rfl
              rw [if_neg (by simp [Region.wanted, yielded, r9])]
              exact hK undef W (Below.refl _ _) rfl
            · have r9 : vs 9 = .bool false := hr 9 rfl
              rw [if_neg (by simp [Region.wanted, yielded, r9])]
              exact hK undef W (Below.refl _ _) rfl
            · have r9 : vs 9 = .bool false := hr 9 rfl
              rw [if_neg (by simp [Region.wanted, yielded, r9])]
              exact hK undef W (Below.refl _ _) rfl
            · have r9 : vs 9 = .bool false := hr 9 rfl
              rw [if_neg (by simp [Region.wanted, yielded, r9])]
              exact hK undef W (Below.refl _ _) rfl
            · have r9 : vs 9 = .bool false := hr 9 rfl
              rw [if_neg (by simp [Region.wanted, yielded, r9])]
              exact hK undef W (Below.refl _ _) rfl
            · have r9 : vs 9 = .bool false := hr 9 rfl
              rw [if_neg (by simp [Region.wanted, yielded, r9])]
              exact hK undef W (Below.refl _ _) rfl
            · have r6 : vs 6 = .bool false := hr 6 rfl
              have r9 : vs 9 = .bool false := hr 9 rfl
              have r20 : vs 20 = undef := hr 20 rfl
              rw [if_pos (by simp [Region.wanted, yielded, r6])]
              simp only [r6, r9, r20] at hK ⊢
              have HK := Lib.hid hK
              clear hK hr
              go_simp
              exact HK.out _ W (Below.refl _ _) rfl
            · have r6 : vs 6 = .bool false := hr 6 rfl
              have r21 : vs 21 = .bool false := hr 21 rfl
              rw [if_pos (by simp [Region.wanted])]
              simp only [r6, r21] at hK ⊢
              have HK := Lib.hid hK
              clear hK hr
              go_simp
              exact HK.out _ W (Below.refl _ _) rfl
          · intro vs W hB hV
            simp only [List.map, putAll, Act.put, List.setIfInBounds_toArray, List.set_cons_succ, List.set_cons_zero, Nat.reduceAdd]
            have r0 : vs 0 = .slice (some ⟨b, off, none⟩) js.length cap := hV 0 (by simp)
            have r1 : vs 1 = .int .i64 0 := hV 1 (by simp)
            have r2 : vs 2 = .pointer (some ⟨b, off, none⟩) := hV 2 (by simp)
            have r3 : vs 3 = jobV js[0] := hV 3 (by simp)
            have r4 : vs 4 = .bool true := hV 4 (by simp)
            have r5 : vs 5 = .bool false := hV 5 (by simp)
            have r6 : vs 6 = .bool false := hV 6 (by simp)
            have r7 : vs 7 = .int .i64 0 := hV 7 (by simp)
            have r8 : vs 8 = .bool false := hV 8 (by simp)
            have r9 : vs 9 = .bool false := hV 9 (by simp)
            have r10 : vs 10 = undef := hV 10 (by simp)
            have r11 : vs 11 = undef := hV 11 (by simp)
            have r12 : vs 12 = undef := hV 12 (by simp)
            have r13 : vs 13 = undef := hV 13 (by simp)
            have r14 : vs 14 = undef := hV 14 (by simp)
            have r15 : vs 15 = undef := hV 15 (by simp)
            have r16 : vs 16 = undef := hV 16 (by simp)
            have r17 : vs 17 = undef := hV 17 (by simp)
            have r18 : vs 18 = undef := hV 18 (by simp)
            have r19 : vs 19 = undef := hV 19 (by simp)
            have r20 : vs 20 = undef := hV 20 (by simp)
            have r21 : vs 21 = .bool false := hV 21 (by simp)
            have r22 : vs 22 = .bool false := hV 22 (by simp)
            simp only [r0, r1, r2, r3, r4, r5, r6, r7, r8, r9, r10, r11, r12, r13, r14, r15, r16, r17, r18, r19, r20, r21, r22]
            clear r0 r1 r2 r3 r4 r5 r6 r7 r8 r9 r10 r11 r12 r13 r14 r15 r16 r17 r18 r19 r20 r21 r22
            have HB5 := Lib.hid (bthen HBR.out hB)
            clear hB hV
            go_wp2_with fail
            go_roundw
            case rel => exact ⟨1, by omega, by go_num, Lib.hid (ok_snoc HD.out HN.out), HB5.out⟩
            case measure => simp [intOf]; omega
        · have HN := Lib.hid (okAt_next hlt hj)
          have hlt' : p < js.length := by omega
          have HY := Lib.hid (JobAt.ext (Ext.below HBR.out) (hc p hlt'))
          have s1 : (0 : Int) ≤ (p : Int) + 1 := by omega
          have s2 : (p : Int) + 1 < (js.length : Int) := by omega
          have s3 : (p : Int) < (js.length : Int) := by omega
          have s4 : ((p : Int) + 1).toNat = p + 1 := by omega
          have s5 : IntKind.i64.wrap (p : Int) = p := by rw [IntKind.wrap_i64]; omega
          obtain ⟨q, hq⟩ : ∃ q, q = ahead js[p] js[p + 1] := ⟨_, rfl⟩
          have HQ := Lib.hid hq
          clear hq hj hc
          go_wp2_with fail
          refine region_v rfl (by kernel_rfl) (fun (i : Nat) (v : Value) (W : World) => match i with | 0 => v = .slice (some ⟨b, off, none⟩) js.length cap | 1 => v = .int .i64 ((p : Int) + 1) | 2 => v = .pointer (some ⟨b, off + (p + 1) * 7, none⟩) | 3 => v = jobV js[p + 1] | 4 => v = .bool true | 5 => v = .bool false | 6 => v = .bool false | 7 => v = .int .i64 ((p : Int) + 1) | 8 => v = .bool true | 9 => v = .bool true | 10 => v = .slice (some ⟨b, off, none⟩) js.length cap | 11 => v = .int .i64 ((p : Int) + 1) | 12 => v = .int .i64 p | 13 => v = .pointer (some ⟨b, off + p * 7, none⟩) | 14 => v = jobV js[p] | 15 => v = .slice (some ⟨b, off, none⟩) js.length cap | 16 => v = .int .i64 ((p : Int) + 1) | 17 => v = .pointer (some ⟨b, off + (p + 1) * 7, none⟩) | 18 => v = jobV js[p + 1] | 19 => v = .bool q | 20 => v = .bool (!q) | 21 => v = .bool (!q) | 22 => v = .bool (!q) | _ => True) ?_ ?_ ?_
          · intro i v W W' hb h
            (try dsimp only at h ⊢)
            split at h <;> first | exact h | trivial
          · simp (config := { maxSteps := 4000000 }) only [List.map, putAll, Act.put, VE, List.setIfInBounds_toArray, List.set_cons_succ, List.set_cons_zero, Nat.reduceAdd]
            refine ⟨?_, ?_, ?_, ?_, ?_, ?_, ?_, ?_, ?_, ?_, ?_, ?_, ?_, ?_, ?_, ?_, ?_, ?_, ?_, ?_, ?_, ?_, ?_, trivial⟩
            all_goals intro vs W hB hr KK hK
            · rw [if_pos (by simp [Region.wanted])]
              have HK := Lib.hid hK
              clear hK hr
              go_simp
              exact HK.out _ W (Below.refl _ _) rfl
            · rw [if_pos (by simp [Region.wanted])]
              have HK := Lib.hid hK
              clear hK hr
              go_simp
              exact HK.out _ W (Below.refl _ _) rfl
            · have r0 : vs 0 = .slice (some ⟨b, off, none⟩) js.length cap := hr 0 rfl
              have r1 : vs 1 = .int .i64 ((p : Int) + 1) := hr 1 rfl
              rw [if_pos (by simp [Region.wanted])]
              simp only [r0, r1] at hK ⊢
              have HK := Lib.hid hK
              clear hK hr
              go_simp
              exact HK.out _ W (Below.refl _ _) rfl
            · have r2 : vs 2 = .pointer (some ⟨b, off + (p + 1) * 7, none⟩) := hr 2 rfl
              rw [if_pos (by simp [Region.wanted])]
              obtain ⟨x0, x1, x2, x3, x4, x5, x6⟩ := HX.out.ext (Ext.below hB)
              unfold IntAt at x0 x1 x2 x3 x4 x5 x6
              simp only [r2] at hK ⊢
              have HK := Lib.hid hK
              clear hK hr
              go_simp
              exact HK.out _ W (Below.refl _ _) rfl
            · have r3 : vs 3 = jobV js[p + 1] := hr 3 rfl
              rw [if_pos (by simp [Region.wanted])]
              simp only [r3] at hK ⊢
              have HK := Lib.hid hK
              have HB := Lib.hid hB
              clear hK hr hB
              go_simp
              refine (refJob_any js[p + 1] _).mono ?_
              rw [HJ.out]
              rintro e w5 ⟨rfl, hb5⟩
              exact HK.out _ w5 hb5 rfl
            · have r4 : vs 4 = .bool true := hr 4 rfl
              rw [if_pos (by simp [Region.wanted])]
              simp only [r4] at hK ⊢
              have HK := Lib.hid hK
              clear hK hr
              go_simp
              exact HK.out _ W (Below.refl _ _) rfl
            · have r5 : vs 5 = .bool false := hr 5 rfl
              rw [if_pos (by simp [Region.wanted])]
              simp only [r5] at hK ⊢
              have HK := Lib.hid hK
              clear hK hr
              go_simp
              exact HK.out _ W (Below.refl _ _) rfl
            · have r6 : vs 6 = .bool false := hr 6 rfl
              rw [if_pos (by simp [Region.wanted, yielded, r6])]
              simp only [r6] at hK ⊢
              have HK := Lib.hid hK
              clear hK hr
              go_simp
              exact HK.out _ W (Below.refl _ _) rfl
            · have r6 : vs 6 = .bool false := hr 6 rfl
              have r7 : vs 7 = .int .i64 ((p : Int) + 1) := hr 7 rfl
              rw [if_pos (by simp [Region.wanted, yielded, r6])]
              simp only [r6, r7] at hK ⊢
              have HK := Lib.hid hK
              clear hK hr
              go_simp
              exact HK.out _ W (Below.refl _ _) rfl
            · have r6 : vs 6 = .bool false := hr 6 rfl
              have r8 : vs 8 = .bool true := hr 8 rfl
              rw [if_pos (by simp [Region.wanted, yielded, r6])]
              simp only [r6, r8] at hK ⊢
              have HK := Lib.hid hK
              clear hK hr
              go_simp
              exact HK.out _ W (Below.refl _ _) rfl
            · have r9 : vs 9 = .bool true := hr 9 rfl
              rw [if_pos (by simp [Region.wanted, yielded, r9])]
              simp only [r9] at hK ⊢
              have HK := Lib.hid hK
              clear hK hr
              go_simp
              exact HK.out _ W (Below.refl _ _) rfl
            · have r9 : vs 9 = .bool true := hr 9 rfl
              rw [if_pos (by simp [Region.wanted, yielded, r9])]
              simp only [r9] at hK ⊢
              have HK := Lib.hid hK
              clear hK hr
              go_simp
              exact HK.out _ W (Below.refl _ _) rfl
            · have r9 : vs 9 = .bool true := hr 9 rfl
              have r11 : vs 11 = .int .i64 ((p : Int) + 1) := hr 11 rfl
              rw [if_pos (by simp [Region.wanted, yielded, r9])]
              simp only [r9, r11] at hK ⊢
              have HK := Lib.hid hK
              clear hK hr
              go_simp
              exact HK.out _ W (Below.refl _ _) rfl
            · have r9 : vs 9 = .bool true := hr 9 rfl
              have r10 : vs 10 = .slice (some ⟨b, off, none⟩) js.length cap := hr 10 rfl
              have r12 : vs 12 = .int .i64 p := hr 12 rfl
              rw [if_pos (by simp [Region.wanted, yielded, r9])]
              simp only [r9, r10, r12] at hK ⊢
              have HK := Lib.hid hK
              clear hK hr
              go_simp
              exact HK.out _ W (Below.refl _ _) rfl
            · have r9 : vs 9 = .bool true := hr 9 rfl
              have r13 : vs 13 = .pointer (some ⟨b, off + p * 7, none⟩) := hr 13 rfl
              rw [if_pos (by simp [Region.wanted, yielded, r9])]
              obtain ⟨y0, y1, y2, y3, y4, y5, y6⟩ := HY.out.ext (Ext.below hB)
              unfold IntAt at y0 y1 y2 y3 y4 y5 y6
              simp only [r9, r13] at hK ⊢
              have HK := Lib.hid hK
              clear hK hr
              go_simp
              exact HK.out _ W (Below.refl _ _) rfl
            · have r9 : vs 9 = .bool true := hr 9 rfl
              rw [if_pos (by simp [Region.wanted, yielded, r9])]
              simp only [r9] at hK ⊢
              have HK := Lib.hid hK
              clear hK hr
              go_simp
              exact HK.out _ W (Below.refl _ _) rfl
            · have r9 : vs 9 = .bool true := hr 9 rfl
              rw [if_pos (by simp [Region.wanted, yielded, r9])]
              simp only [r9] at hK ⊢
              have HK := Lib.hid hK
              clear hK hr
              go_simp
              exact HK.out _ W (Below.refl _ _) rfl
            · have r9 : vs 9 = .bool true := hr 9 rfl
              have r15 : vs 15 = .slice (some ⟨b, off, none⟩) js.length cap := hr 15 rfl
              have r16 : vs 16 = .int .i64 ((p : Int) + 1) := hr 16 rfl
              rw [if_pos (by simp [Region.wanted, yielded, r9])]
              simp only [r9, r15, r16] at hK ⊢
              have HK := Lib.hid hK
              clear hK hr
              go_simp
              exact HK.out _ W (Below.refl _ _) rfl
            · have r9 : vs 9 = .bool true := hr 9 rfl
              have r17 : vs 17 = .pointer (some ⟨b, off + (p + 1) * 7, none⟩) := hr 17 rfl
              rw [if_pos (by simp [Region.wanted, yielded, r9])]
              obtain ⟨x0, x1, x2, x3, x4, x5, x6⟩ := HX.out.ext (Ext.below hB)
              unfold IntAt at x0 x1 x2 x3 x4 x5 x6
              simp only [r9, r17] at hK ⊢
              have HK := Lib.hid hK
              clear hK hr
              go_simp
              exact HK.out _ W (Below.refl _ _) rfl
            · have r9 : vs 9 = .bool true := hr 9 rfl
              have r14 : vs 14 = jobV js[p] := hr 14 rfl
              have r18 : vs 18 = jobV js[p + 1] := hr 18 rfl
              rw [if_pos (by simp [Region.wanted, yielded, r9])]
              simp only [r9, r14, r18] at hK ⊢
              have HK := Lib.hid hK
              have HB := Lib.hid hB
              clear hK hr hB
              go_simp
              refine (ahead_any js[p] js[p + 1] _).mono ?_
              rw [← HQ.out]
              rintro e w5 ⟨rfl, hb5⟩
              exact HK.out _ w5 hb5 rfl
            · have r9 : vs 9 = .bool true := hr 9 rfl
              have r19 : vs 19 = .bool q := hr 19 rfl
              rw [if_pos (by simp [Region.wanted, yielded, r9])]
              simp only [r9, r19] at hK ⊢
              have HK := Lib.hid hK
              clear hK hr
              go_simp
              exact HK.out _ W (Below.refl _ _) rfl
            · have r6 : vs 6 = .bool false := hr 6 rfl
              have r9 : vs 9 = .bool true := hr 9 rfl
              have r20 : vs 20 = .bool (!q) := hr 20 rfl
              rw [if_pos (by simp [Region.wanted, yielded, r6])]
              simp only [r6, r9, r20] at hK ⊢
              have HK := Lib.hid hK
              clear hK hr
              go_simp
              exact HK.out _ W (Below.refl _ _) rfl
            · have r6 : vs 6 = .bool false := hr 6 rfl
              have r21 : vs 21 = .bool (!q) := hr 21 rfl
              rw [if_pos (by simp [Region.wanted])]
              simp only [r6, r21] at hK ⊢
              have HK := Lib.hid hK
              clear hK hr
              go_simp
              exact HK.out _ W (Below.refl _ _) rfl
          · intro vs W hB hV
            simp only [List.map, putAll, Act.put, List.setIfInBounds_toArray, List.set_cons_succ, List.set_cons_zero, Nat.reduceAdd]
            have r0 : vs 0 = .slice (some ⟨b, off, none⟩) js.length cap := hV 0 (by simp)
            have r1 : vs 1 = .int .i64 ((p : Int) + 1) := hV 1 (by simp)
            have r2 : vs 2 = .pointer (some ⟨b, off + (p + 1) * 7, none⟩) := hV 2 (by simp)
            have r3 : vs 3 = jobV js[p + 1] := hV 3 (by simp)
            have r4 : vs 4 = .bool true := hV 4 (by simp)
            have r5 : vs 5 = .bool false := hV 5 (by simp)
            have r6 : vs 6 = .bool false := hV 6 (by simp)
            have r7 : vs 7 = .int .i64 ((p : Int) + 1) := hV 7 (by simp)
            have r8 : vs 8 = .bool true := hV 8 (by simp)
            have r9 : vs 9 = .bool true := hV 9 (by simp)
            have r10 : vs 10 = .slice (some ⟨b, off, none⟩) js.length cap := hV 10 (by simp)
            have r11 : vs 11 = .int .i64 ((p : Int) + 1) := hV 11 (by simp)
            have r12 : vs 12 = .int .i64 p := hV 12 (by simp)
            have r13 : vs 13 = .pointer (some ⟨b, off + p * 7, none⟩) := hV 13 (by simp)
            have r14 : vs 14 = jobV js[p] := hV 14 (by simp)
            have r15 : vs 15 = .slice (some ⟨b, off, none⟩) js.length cap := hV 15 (by simp)
            have r16 : vs 16 = .int .i64 ((p : Int) + 1) := hV 16 (by simp)
            have r17 : vs 17 = .pointer (some ⟨b, off + (p + 1) * 7, none⟩) := hV 17 (by simp)
            have r18 : vs 18 = jobV js[p + 1] := hV 18 (by simp)
            have r19 : vs 19 = .bool q := hV 19 (by simp)
            have r20 : vs 20 = .bool (!q) := hV 20 (by simp)
            have r21 : vs 21 = .bool (!q) := hV 21 (by simp)
            have r22 : vs 22 = .bool (!q) := hV 22 (by simp)
            simp only [r0, r1, r2, r3, r4, r5, r6, r7, r8, r9, r10, r11, r12, r13, r14, r15, r16, r17, r18, r19, r20, r21, r22]
            clear r0 r1 r2 r3 r4 r5 r6 r7 r8 r9 r10 r11 r12 r13 r14 r15 r16 r17 r18 r19 r20 r21 r22
            have HB5 := Lib.hid (bthen HBR.out hB)
            clear hB hV
            cases q
            · have HA := Lib.hid (jobsMay_no hlt (show okAt js (p + 1) = false by rw [HN.out]; exact HQ.out.symm))
              go_wp2_with fail
              go_ret
              exact ⟨ret_bool HA.out.symm, HB5.out⟩
            · have HA := Lib.hid (show okAt js (p + 1) = true by rw [HN.out]; exact HQ.out.symm)
              go_wp2_with fail
              go_roundw
              case rel => exact ⟨p + 2, by omega, by go_num, Lib.hid (ok_snoc HD.out HA.out), HB5.out⟩
              case measure => simp [intOf]; omega
    · obtain rfl : k = js.length := by omega
      have HY := Lib.hid (jobsMay_yes HD.out)
      go_wp2_with fail
      go_ret
      exact ⟨ret_bool (by rw [HY.out]; (rw [Bool.eq_iff_iff]; (try simp only [beq_iff_eq, beq_eq_false_iff_ne, ne_eq] at *); (try simp); (try omega))), HBR.out⟩
end Go.Proofs.Ytbkhnlacabaagaa
