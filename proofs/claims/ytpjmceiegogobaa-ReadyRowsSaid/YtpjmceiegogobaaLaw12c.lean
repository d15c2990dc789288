/- Chapter 12's law ReadyLate. -/
import Derived.Test.YtpjmceiegogobaaLaw12b
import Derived.Test.YtpjmceiegogobaaPlR
set_option linter.unusedVariables false
set_option linter.unusedSimpArgs false
namespace Go.Proofs.Ytpjmceiegogobaa
open Go.RowKit

theorem JobsV.get {w : World} {v : Value} {xs : List Job} (h : JobsV w v xs) {k : Nat} (hk : k < xs.length) : ∃ b off cap, v = .slice (some ⟨b, off, none⟩) xs.length cap ∧ JobAt w b (off + k * 7) xs[k] := by
  obtain ⟨a, cap, e, -, -, -, hc⟩ := h
  obtain ⟨b, off, rfl, hq⟩ := hc (by rintro rfl; simp at hk)
  exact ⟨b, off, cap, e, hq k hk⟩
set_option maxRecDepth 100000 in
set_option maxHeartbeats 8000000 in
theorem readyLate_any (js : List Job) (v : Value) (now : Int) (w : World) (hv : JobsV w v js) :
    Calls Try.prog 5 #[v, .int .i64 now] w fun e w' => e = .returned (.bool true) ∧ Below w.heap.size w w' := by
  obtain ⟨a, cap, rfl, hsm, -, -, -⟩ := id hv
  have HV := Lib.hid hv
  clear hv
  go_enter Try.func5, Try.ntmps5
  go_wp2_with fail
  refine (awake12 _).mono ?_
  rintro e w1 ⟨rfl, hb⟩
  have HB1 := Lib.hid hb
  clear hb
  go_wp2_with fail
  refine (missed_any _ js now _ (HV.out.ext (Ext.below HB1.out))).mono ?_
  rintro e w2 ⟨vg, vh, rfl, h0, h1, -, hb⟩
  have l2 := leftJ_len js now
  have l3 := lateJ_len js now
  have HG2 := Lib.hid (JobRow.jobs h0 (by omega))
  have HH2 := Lib.hid (JobRow.jobs h1 (by omega))
  have HB2 := Lib.hid (bthen HB1.out hb)
  clear h0 h1 hb
  go_wp2_with fail
  refine (readyMay_any _ js _ (HV.out.ext (Ext.below HB2.out))).mono ?_
  by_cases hm : jobsMay js = true
  · rw [hm]
    rintro e w3 ⟨rfl, hb⟩
    obtain ⟨L, hL⟩ : ∃ L, L = js.filter (leftP now) := ⟨_, rfl⟩
    obtain ⟨M, hM⟩ : ∃ M, M = js.filter (lateP now) := ⟨_, rfl⟩
    have eL : leftJ js now = L := by unfold leftJ; rw [if_pos hm, hL]
    have eM : lateJ js now = M := by unfold lateJ; rw [if_pos hm, hM]
    have HSUM := Lib.hid (show L.length + M.length = js.length by rw [hL, hM]; exact left_late js now)
    have HML := Lib.hid (show jobsMay L = true by rw [hL]; exact jobsMay_filter hm _)
    have HMM := Lib.hid (show jobsMay M = true by rw [hM]; exact jobsMay_filter hm _)
    have HL := Lib.hid hL
    have HM := Lib.hid hM
    rw [eL] at HG2 l2
    rw [eM] at HH2 l3
    have HG3 := Lib.hid (HG2.out.ext (Ext.below hb))
    have HH3 := Lib.hid (HH2.out.ext (Ext.below hb))
    have HB3 := Lib.hid (bthen HB2.out hb)
    have hjl := jobsMay_small hm
    clear hb hm eL eM hL hM
    obtain ⟨ga, gc, rfl, -, -, -, -⟩ := id HG3.out
    obtain ⟨ha, hc, rfl, -, -, -, -⟩ := id HH3.out
    have s1 : IntKind.i64.wrap ((L.length : Int) + (M.length : Int)) = (js.length : Int) := by rw [IntKind.wrap_i64]; have := HSUM.out; omega
    go_wp2_with fail
    refine (readyMay_any _ L _ HG3.out).mono ?_
    rw [HML.out]
    rintro e w4 ⟨rfl, hb⟩
    have HG4 := Lib.hid (HG3.out.ext (Ext.below hb))
    have HH4 := Lib.hid (HH3.out.ext (Ext.below hb))
    have HB4 := Lib.hid (bthen HB3.out hb)
    clear hb
    go_wp2_with fail
    refine (readyMay_any _ M _ HH4.out).mono ?_
    rw [HMM.out]
    rintro e w5 ⟨rfl, hb⟩
    have HG5 := Lib.hid (HG4.out.ext (Ext.below hb))
    have HH5 := Lib.hid (HH4.out.ext (Ext.below hb))
    have HB5 := Lib.hid (bthen HB4.out hb)
    have HV5 := Lib.hid (HV.out.ext (Ext.below HB5.out))
    clear hb s1
    go_wp2_with fail
    go_loopw [7, 8, 9] (fun p q i wr => ∃ k : Nat, k ≤ js.length ∧ i = .int .i64 k ∧ p = .int .i64 ((js.take k).filter (leftP now)).length ∧ q = .int .i64 ((js.take k).filter (lateP now)).length ∧ Below w5.heap.size w5 wr) (fun _ _ i _ => js.length - (intOf i).toNat)
    case atStart => exact ⟨0, by omega, rfl, rfl, rfl, Below.refl _ _⟩
    case round =>
      obtain ⟨k, hk, rfl, rfl, rfl, hB⟩ := hrel
      have HB := Lib.hid hB
      clear hB
      by_cases hlt : k < js.length
      · obtain ⟨b, off, cp, e, hy⟩ := (HV5.out.ext (Ext.below HB.out)).get hlt
        injection e with e1 _ e3
        subst e1
        subst e3
        obtain ⟨y0, y1, y2, y3, y4, y5, y6⟩ := hy
        unfold IntAt at y0 y1 y2 y3 y4 y5 y6
        by_cases hp : js[k].deadline ≤ now
        · have hq := filt_get (p := lateP now) hlt (decide_eq_true hp)
          rw [← HM.out] at hq
          obtain ⟨q, hqq⟩ : ∃ q, q = ((js.take k).filter (lateP now)).length := ⟨_, rfl⟩
          obtain ⟨r, hrr⟩ : ∃ r, r = ((js.take k).filter (leftP now)).length := ⟨_, rfl⟩
          have en : ((js.take (k + 1)).filter (lateP now)).length = q + 1 := by rw [filt_yes _ js k hlt (decide_eq_true hp), hqq]; simp
          have em : ((js.take (k + 1)).filter (leftP now)).length = r := by rw [filt_no _ js k hlt (by unfold leftP; rw [decide_eq_true hp]; rfl), hrr]
          have HEN := Lib.hid (And.intro en em)
          rw [← hqq] at hq ⊢
          rw [← hrr]
          obtain ⟨hql, hqe⟩ := List.getElem?_eq_some_iff.1 hq
          obtain ⟨bb, oo, cc, e, hz⟩ := (HH5.out.ext (Ext.below HB.out)).get hql
          injection e with e _ e3
          subst e
          subst e3
          rw [hqe] at hz
          obtain ⟨z0, z1, z2, z3, z4, z5, z6⟩ := hz
          unfold IntAt at z0 z1 z2 z3 z4 z5 z6
          have HQ := Lib.hid (And.intro hqq hrr)
          clear hqe hq hqq hrr en em
          go_wp2_with fail
          go_quiet (fail)
          go_wp2_with fail
          go_roundw
          case rel => exact ⟨k + 1, by omega, by go_num, (by rw [HEN.out.2]; first | done | rfl | go_num), (by rw [HEN.out.1]; first | done | rfl | go_num), below_drewN HB.out _⟩
          case measure => simp [intOf]; omega
        · have hq := filt_get (p := leftP now) hlt (by unfold leftP; rw [decide_eq_false hp]; rfl)
          rw [← HL.out] at hq
          obtain ⟨q, hqq⟩ : ∃ q, q = ((js.take k).filter (leftP now)).length := ⟨_, rfl⟩
          obtain ⟨r, hrr⟩ : ∃ r, r = ((js.take k).filter (lateP now)).length := ⟨_, rfl⟩
          have en : ((js.take (k + 1)).filter (leftP now)).length = q + 1 := by rw [filt_yes _ js k hlt (by unfold leftP; rw [decide_eq_false hp]; rfl), hqq]; simp
          have em : ((js.take (k + 1)).filter (lateP now)).length = r := by rw [filt_no _ js k hlt (decide_eq_false hp), hrr]
          have HEN := Lib.hid (And.intro en em)
          rw [← hqq] at hq ⊢
          rw [← hrr]
          obtain ⟨hql, hqe⟩ := List.getElem?_eq_some_iff.1 hq
          obtain ⟨bb, oo, cc, e, hz⟩ := (HG5.out.ext (Ext.below HB.out)).get hql
          injection e with e _ e3
          subst e
          subst e3
          rw [hqe] at hz
          obtain ⟨z0, z1, z2, z3, z4, z5, z6⟩ := hz
          unfold IntAt at z0 z1 z2 z3 z4 z5 z6
          have HQ := Lib.hid (And.intro hqq hrr)
          clear hqe hq hqq hrr en em
          go_wp2_with fail
          go_quiet (fail)
          go_wp2_with fail
          go_roundw
          case rel => exact ⟨k + 1, by omega, by go_num, (by rw [HEN.out.1]; first | done | rfl | go_num), (by rw [HEN.out.2]; first | done | rfl | go_num), below_drewN HB.out _⟩
          case measure => simp [intOf]; omega
      · obtain rfl : k = js.length := by omega
        have HB6 := Lib.hid (bthen HB5.out HB.out)
        go_wp2_with fail
        go_ret
        exact ⟨rfl, HB6.out⟩
  · have hm : jobsMay js = false := by simpa using hm
    have eL : leftJ js now = [] := by unfold leftJ; rw [hm]; rfl
    have eM : lateJ js now = [] := by unfold lateJ; rw [hm]; rfl
    rw [eL] at HG2
    rw [eM] at HH2
    obtain ⟨ga, gc, rfl, -, -, -, -⟩ := id HG2.out
    obtain ⟨ha, hc, rfl, -, -, -, -⟩ := id HH2.out
    rw [hm]
    rintro e w3 ⟨rfl, hb⟩
    have HB3 := Lib.hid (bthen HB2.out hb)
    clear hb hm eL eM l2 l3
    go_wp2_with fail
    go_ret
    exact ⟨rfl, HB3.out⟩
end Go.Proofs.Ytpjmceiegogobaa
