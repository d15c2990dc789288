/- Chapter 12's law ReadyPlace. -/
import Derived.Test.YtpjmceiegogobaaLaw12c
set_option linter.unusedVariables false
set_option linter.unusedSimpArgs false
namespace Go.Proofs.Ytpjmceiegogobaa
open Go.RowKit

theorem putL_before {js : List Job} {x : Job} {i : Nat} (h : i < pos js x) : (putL js x)[i]? = js[i]? := by
  have hp := pos_le js x
  unfold putL
  rw [List.append_assoc, List.getElem?_append_left (by rw [List.length_take]; omega), List.getElem?_take_of_lt h]
theorem putL_at (js : List Job) (x : Job) : (putL js x)[pos js x]? = some x := by
  have hp := pos_le js x
  unfold putL
  rw [List.append_assoc, List.getElem?_append_right (by rw [List.length_take]; omega), List.length_take, Nat.min_eq_left hp, Nat.sub_self]
  rfl
theorem putL_behind {js : List Job} {x : Job} {i : Nat} (h : pos js x ≤ i) : (putL js x)[i + 1]? = js[i]? := by
  have hp := pos_le js x
  unfold putL
  rw [List.getElem?_append_right (by simp; omega)]
  simp only [List.length_append, List.length_take, List.length_cons, List.length_nil, Nat.min_eq_left hp]
  rw [List.getElem?_drop]
  congr 1
  omega
theorem neq7 {α : Type} {p1 p2 p3 p4 p5 p6 p7 : Prop} [Decidable p1] [Decidable p2] [Decidable p3] [Decidable p4] [Decidable p5] [Decidable p6] [Decidable p7] (h : ¬(p1 ∧ p2 ∧ p3 ∧ p4 ∧ p5 ∧ p6 ∧ p7)) {t f : α} :
    (if p1 then if p2 then if p3 then if p4 then if p5 then if p6 then if p7 then t else f else f else f else f else f else f else f) = f := by
  by_cases h1 : p1
  · by_cases h2 : p2
    · by_cases h3 : p3
      · by_cases h4 : p4
        · by_cases h5 : p5
          · by_cases h6 : p6
            · by_cases h7 : p7
              · exact absurd ⟨h1, h2, h3, h4, h5, h6, h7⟩ h
              · simp [h1, h2, h3, h4, h5, h6, h7]
            · simp [h1, h2, h3, h4, h5, h6]
          · simp [h1, h2, h3, h4, h5]
        · simp [h1, h2, h3, h4]
      · simp [h1, h2, h3]
    · simp [h1, h2]
  · simp [h1]
theorem ne_ahead {y x : Job} (h : ahead y x = true ∨ ahead x y = true) : ¬(y.task = x.task ∧ y.seq = x.seq ∧ y.prio = x.prio ∧ y.release = x.release ∧ y.deadline = x.deadline ∧ y.demand = x.demand ∧ y.used = x.used) := by
  rintro ⟨h1, -, h3, h4, -, -, -⟩
  unfold ahead at h
  simp only [decide_eq_true_eq] at h
  omega
theorem ahead_cases {y x : Job} (h : ahead y x = true) : y.prio < x.prio ∨ y.prio = x.prio ∧ y.release < x.release ∨ y.prio = x.prio ∧ y.release = x.release ∧ y.task < x.task := by
  unfold ahead at h
  simp only [decide_eq_true_eq] at h
  omega
set_option maxRecDepth 100000 in
set_option maxHeartbeats 8000000 in
theorem readyPlace_any (js : List Job) (v : Value) (x : Job) (vx : Value) (w : World) (hv : JobsV w v js) (hx : vx = jobV x) :
    Calls Try.prog 7 #[v, vx] w fun e w' => e = .returned (.bool true) ∧ Below w.heap.size w w' := by
  subst hx
  obtain ⟨a, cap, rfl, hsm, -, -, -⟩ := id hv
  have HV := Lib.hid hv
  clear hv
  go_enter Try.func7, Try.ntmps7
  obtain ⟨wz, hw_wz⟩ : ∃ wz, wz = w.alloc (.cells #[.int .i64 x.task, .int .i64 x.seq, .int .i64 x.prio, .int .i64 x.release, .int .i64 x.deadline, .int .i64 x.demand, .int .i64 x.used] 24) := ⟨_, rfl⟩
  obtain ⟨bx, hg_bx⟩ : ∃ bx, bx = w.heap.size := ⟨_, rfl⟩
  have hb_wz : Below w.heap.size w wz := by rw [hw_wz]; exact balloc _ _
  have hk_bx : wz.heap[bx]? = some (.cells #[.int .i64 x.task, .int .i64 x.seq, .int .i64 x.prio, .int .i64 x.release, .int .i64 x.deadline, .int .i64 x.demand, .int .i64 x.used] 24 (0, 0)) := by rw [hw_wz, hg_bx]; exact blk_new _ _
  have hs_wz : wz.heap.size = w.heap.size + 1 := by rw [hw_wz]; simp
  have HXZ := Lib.hid (show JobAt wz bx 0 x from jobAt_blk hk_bx 0 rfl rfl rfl rfl rfl rfl rfl)
  have HBZ := Lib.hid hb_wz
  clear hk_bx hb_wz hs_wz
  go_wp2_with fail
  rw [← hw_wz, ← hg_bx]
  clear hw_wz hg_bx
  refine (awake12 _).mono ?_
  rintro e w1 ⟨rfl, hb⟩
  have HB1 := Lib.hid (bthen HBZ.out hb)
  have HX1 := Lib.hid (HXZ.out.ext (Ext.below hb))
  clear hb
  obtain ⟨y0, y1, y2, y3, y4, y5, y6⟩ := HX1.out
  unfold IntAt at y0 y1 y2 y3 y4 y5 y6
  go_wp2_with fail
  refine (put_any _ js x _ (HV.out.ext (Ext.below HB1.out))).mono ?_
  rintro e w2 ⟨va, rfl, h0, h1, hb⟩
  have HB2 := Lib.hid (bthen HB1.out hb)
  have HX2 := Lib.hid (HX1.out.ext (Ext.below hb))
  clear hb y0 y1 y2 y3 y4 y5 y6
  by_cases hpe : putE js x = 0
  · have HR := Lib.hid (JobRow.jobs (h1 hpe) (by have h := putR_len js x; unfold putR at h; rw [if_pos hpe] at h; omega))
    have HPE := Lib.hid hpe
    have HM := Lib.hid (putE_zero hpe)
    have HPM := Lib.hid (putL_may hpe)
    obtain ⟨A, hA⟩ : ∃ A, A = putL js x := ⟨_, rfl⟩
    rw [← hA] at HR HPM
    have HA := Lib.hid hA
    have hlen : A.length = js.length + 1 := by rw [hA]; exact putL_len js x
    have hj16 : js.length ≤ 16 := jobsMay_small HM.out.1
    rw [hpe]
    clear h0 h1 hpe hA
    obtain ⟨aa, ac, rfl, -, -, -, -⟩ := id HR.out
    rw [hlen]
    have s1 : IntKind.i64.wrap ((js.length : Int) + 1) = (js.length : Int) + 1 := by rw [IntKind.wrap_i64]; omega
    go_wp2_with (first | (go_at_call 16; refine (num_any _ _).mono ?_; rintro e w' ⟨rfl, hw⟩; subst w') | fail)
    refine (readyMay_any _ A _ (by rw [← hlen]; exact HR.out)).mono ?_
    rw [HPM.out]
    rintro e w3 ⟨rfl, hb⟩
    have HB3 := Lib.hid (bthen HB2.out hb)
    have HX3 := Lib.hid (HX2.out.ext (Ext.below hb))
    have HR3 := Lib.hid (HR.out.ext (Ext.below hb))
    clear hb
    go_wp2_with fail
    refine (readyMay_any _ js _ (HV.out.ext (Ext.below HB3.out))).mono ?_
    rw [HM.out.1]
    rintro e w4 ⟨rfl, hb⟩
    have HB4 := Lib.hid (bthen HB3.out hb)
    have HX4 := Lib.hid (HX3.out.ext (Ext.below hb))
    have HR4 := Lib.hid (HR3.out.ext (Ext.below hb))
    have HV4 := Lib.hid (HV.out.ext (Ext.below HB4.out))
    clear hb s1
    obtain ⟨p, hp⟩ : ∃ p, p = pos js x := ⟨_, rfl⟩
    have hpl : p ≤ js.length := by rw [hp]; exact pos_le js x
    have HP := Lib.hid hp
    clear hp
    go_wp2_with fail
    go_loopw [7, 8, 9] (fun m s i wr => ∃ k : Nat, k ≤ js.length + 1 ∧ i = .int .i64 k ∧ (k ≤ p ∧ s = .int .i64 0 ∧ m = .int .i64 k ∨ ∃ q, k = q + 1 ∧ p ≤ q ∧ s = .int .i64 1 ∧ m = .int .i64 q) ∧ Below w4.heap.size w4 wr) (fun _ _ i _ => js.length + 1 - (intOf i).toNat)
    case atStart => exact ⟨0, by omega, rfl, .inl ⟨by omega, rfl, rfl⟩, Below.refl _ _⟩
    case round =>
      obtain ⟨k, hk, rfl, hs, hB⟩ := hrel
      have HB := Lib.hid hB
      have HXk := Lib.hid (HX4.out.ext (Ext.below hB))
      clear hB
      by_cases hlt : k < js.length + 1
      · obtain ⟨x0, x1, x2, x3, x4, x5, x6⟩ := HXk.out
        unfold IntAt at x0 x1 x2 x3 x4 x5 x6
        simp only [Nat.zero_add] at x0 x1 x2 x3 x4 x5 x6
        rcases hs with ⟨hkp, rfl, rfl⟩ | ⟨q, rfl, hpq, rfl, rfl⟩
        · by_cases he : k = p
          · have hq : A[k]? = some x := by rw [HA.out, he, HP.out]; exact putL_at js x
            obtain ⟨hkA, hqe⟩ := List.getElem?_eq_some_iff.1 hq
            obtain ⟨bb, oo, cc, e, hz⟩ := (HR4.out.ext (Ext.below HB.out)).get hkA
            injection e with e _ e3
            subst e
            subst e3
            rw [hqe] at hz
            obtain ⟨z0, z1, z2, z3, z4, z5, z6⟩ := hz
            unfold IntAt at z0 z1 z2 z3 z4 z5 z6
            have HE := Lib.hid he
            clear hqe hq he
            go_wp2_with fail
            go_quiet (fail)
            go_wp2_with fail
            go_roundw
            case rel => exact ⟨k + 1, by omega, by go_num, .inr ⟨k, rfl, by have := HE.out; omega, rfl, rfl⟩, below_drewN HB.out _⟩
            case measure => simp [intOf]; omega
          · have hlt2 : k < p := by omega
            have hkj : k < js.length := by omega
            have hq : A[k]? = js[k]? := by rw [HA.out]; exact putL_before (HP.out ▸ hlt2)
            have hah : ahead js[k] x = true := before_pos (js := js) (by rw [← HP.out]; exact List.mem_iff_getElem.2 ⟨k, by rw [List.length_take]; omega, by rw [List.getElem_take]⟩)
            obtain ⟨b, off, cp, e, hy⟩ := (HV4.out.ext (Ext.below HB.out)).get hkj
            injection e with e1 _ e3
            subst e1
            subst e3
            rw [List.getElem?_eq_getElem hkj] at hq
            obtain ⟨hkA, hqe⟩ := List.getElem?_eq_some_iff.1 hq
            obtain ⟨bb, oo, cc, e, hz⟩ := (HR4.out.ext (Ext.below HB.out)).get hkA
            injection e with e _ e3
            subst e
            subst e3
            rw [hqe] at hz
            obtain ⟨y0, y1, y2, y3, y4, y5, y6⟩ := hy
            obtain ⟨z0, z1, z2, z3, z4, z5, z6⟩ := hz
            unfold IntAt at y0 y1 y2 y3 y4 y5 y6 z0 z1 z2 z3 z4 z5 z6
            have HNE := Lib.hid (ne_ahead (.inl hah))
            have hpr : js[k].prio ≤ x.prio := by have := ahead_cases hah; omega
            have f1 : decide (x.prio < js[k].prio) = false := decide_eq_false (by omega)
            clear hqe hq hah hpr he
            go_wp2_with fail
            refine wp_region_quiet_lit (by kernel_rfl) (by kernel_rfl) ?_
            repeat (first | go_big_quiet_step (fail) | quiet_step (fail))
            refine wpQuiet_step (fun K hK => ?_)
            go_simp
            refine ⟨.bool false, fun _ => ?_, hK _ ?_⟩
            · rw [neq7 HNE.out]; exact ⟨rfl, rfl⟩
            clear hK K
            repeat (first | go_big_quiet_step (fail) | quiet_step (fail))
            refine wpQuiet_nil ?_
            intro _ hw'
            obtain ⟨nq, hw''⟩ := hw'
            subst hw''
            go_wp2_with fail
            go_quiet (fail)
            go_wp2_with fail
            go_quiet (fail)
            go_wp2_with fail
            go_roundw
            case rel => exact ⟨k + 1, by omega, by go_num, .inl ⟨by omega, rfl, by go_num⟩, below_drewN HB.out _⟩
            case measure => simp [intOf]; omega
        · have hkj : q < js.length := by omega
          have hq : A[q + 1]? = js[q]? := by rw [HA.out]; exact putL_behind (HP.out ▸ hpq)
          have hah : ahead x js[q] = true := behind_pos (js := js) HM.out.1 HM.out.2.2.1 (by rw [← HP.out]; exact List.mem_iff_getElem.2 ⟨q - p, by rw [List.length_drop]; omega, by rw [List.getElem_drop]; congr 1; omega⟩)
          obtain ⟨b, off, cp, e, hy⟩ := (HV4.out.ext (Ext.below HB.out)).get hkj
          injection e with e1 _ e3
          subst e1
          subst e3
          rw [List.getElem?_eq_getElem hkj] at hq
          obtain ⟨hkA, hqe⟩ := List.getElem?_eq_some_iff.1 hq
          obtain ⟨bb, oo, cc, e, hz⟩ := (HR4.out.ext (Ext.below HB.out)).get hkA
          injection e with e _ e3
          subst e
          subst e3
          rw [hqe] at hz
          obtain ⟨y0, y1, y2, y3, y4, y5, y6⟩ := hy
          obtain ⟨z0, z1, z2, z3, z4, z5, z6⟩ := hz
          unfold IntAt at y0 y1 y2 y3 y4 y5 y6 z0 z1 z2 z3 z4 z5 z6
          have HNE := Lib.hid (ne_ahead (y := js[q]) (.inr hah))
          have hpr : x.prio ≤ js[q].prio := by have := ahead_cases hah; omega
          have f1 : decide (js[q].prio < x.prio) = false := decide_eq_false (by omega)
          have c1 : (0 : Int) ≤ (q : Int) + 1 := by omega
          have c2 : (q : Int) + 1 < (js.length : Int) + 1 := by omega
          have c3 : ((q : Int) + 1).toNat = q + 1 := by omega
          clear hqe hq hah hpr
          go_wp2_with fail
          refine wp_region_quiet_lit (by kernel_rfl) (by kernel_rfl) ?_
          repeat (first | go_big_quiet_step (fail) | quiet_step (fail))
          refine wpQuiet_step (fun K hK => ?_)
          go_simp
          refine ⟨.bool false, fun _ => ?_, hK _ ?_⟩
          · rw [neq7 HNE.out]; exact ⟨rfl, rfl⟩
          clear hK K
          repeat (first | go_big_quiet_step (fail) | quiet_step (fail))
          refine wpQuiet_nil ?_
          intro _ hw'
          obtain ⟨nq, hw''⟩ := hw'
          subst hw''
          go_wp2_with fail
          go_quiet (fail)
          go_wp2_with fail
          go_quiet (fail)
          go_wp2_with fail
          go_roundw
          case rel => exact ⟨q + 2, by omega, by go_num, .inr ⟨q + 1, rfl, by omega, rfl, by go_num⟩, below_drewN HB.out _⟩
          case measure => simp [intOf]; omega
      · obtain rfl : k = js.length + 1 := by omega
        rcases hs with ⟨hkp, rfl, rfl⟩ | ⟨q, hq, hpq, rfl, rfl⟩
        · omega
        · have hq : q = js.length := by omega
          subst hq
          have HB5 := Lib.hid (bthen HB4.out HB.out)
          have HR5 := Lib.hid (HR4.out.ext (Ext.below HB.out))
          have hA0 : 0 < A.length := by omega
          have hf : firstIs A = true := by unfold firstIs; rw [HPM.out]; cases A with | nil => simp at hA0 | cons => rfl
          have hj : firstJ A = A[0] := by unfold firstJ; rw [if_pos hf]; exact getD_at hA0
          have HF := Lib.hid (And.intro hf hj)
          clear hf hj
          go_wp2_with fail
          refine (first_any _ A _ (by rw [← hlen]; exact HR5.out)).mono ?_
          rw [HF.out.1, HF.out.2]
          rintro e w6 ⟨rfl, hb⟩
          obtain ⟨w7, hw_w7⟩ : ∃ w7, w7 = w6.alloc (.cells #[.int .i64 A[0].task, .int .i64 A[0].seq, .int .i64 A[0].prio, .int .i64 A[0].release, .int .i64 A[0].deadline, .int .i64 A[0].demand, .int .i64 A[0].used] 24) := ⟨_, rfl⟩
          obtain ⟨b2, hg_b2⟩ : ∃ b2, b2 = w6.heap.size := ⟨_, rfl⟩
          have hb_w7 : Below w6.heap.size w6 w7 := by rw [hw_w7]; exact balloc _ _
          have hk_b2 : w7.heap[b2]? = some (.cells #[.int .i64 A[0].task, .int .i64 A[0].seq, .int .i64 A[0].prio, .int .i64 A[0].release, .int .i64 A[0].deadline, .int .i64 A[0].demand, .int .i64 A[0].used] 24 (0, 0)) := by rw [hw_w7, hg_b2]; exact blk_new _ _
          have hs_w7 : w7.heap.size = w6.heap.size + 1 := by rw [hw_w7]; simp
          have hb7 := bthen hb hb_w7
          have HB7 := Lib.hid (bthen HB5.out hb7)
          obtain ⟨z0, z1, z2, z3, z4, z5, z6⟩ : JobAt w7 b2 0 A[0] := jobAt_blk hk_b2 0 rfl rfl rfl rfl rfl rfl rfl
          obtain ⟨bb, oo, cc, e, hy⟩ := (HR5.out.ext (Ext.below hb7)).get hA0
          injection e with e _ e3
          subst e
          subst e3
          obtain ⟨y0, y1, y2, y3, y4, y5, y6⟩ := hy
          unfold IntAt at y0 y1 y2 y3 y4 y5 y6 z0 z1 z2 z3 z4 z5 z6
          simp only [Nat.zero_add, Nat.zero_mul, Nat.add_zero] at y0 y1 y2 y3 y4 y5 y6 z0 z1 z2 z3 z4 z5 z6
          have c1 : (0 : Int) < (js.length : Int) + 1 := by omega
          clear hb hb7 hb_w7 hs_w7 hk_b2
          go_wp2_with fail
          rw [← hw_w7, ← hg_b2]
          clear hw_w7 hg_b2
          go_quiet (fail)
          go_wp2_with fail
          go_ret
          exact ⟨rfl, below_drewN HB7.out _⟩
  · obtain rfl := h0 hpe
    have hpe' : (putE js x != 0) = true := by simpa using hpe
    obtain ⟨pe, hq⟩ : ∃ pe, pe = putE js x := ⟨_, rfl⟩
    rw [← hq] at hpe' ⊢
    clear h0 h1 hpe hq
    go_wp2_with (first | (go_at_call 16; refine (num_any _ _).mono ?_; rintro e w' ⟨rfl, hw⟩; subst w') | fail)
    go_ret
    exact ⟨rfl, HB2.out⟩
end Go.Proofs.Ytpjmceiegogobaa
