/- May jobs be: ready's row.may and May, the reference's JobsMay. -/
import Derived.Test.YtpjmceiegogobaaJob2
set_option linter.unusedVariables false
set_option linter.unusedSimpArgs false
namespace Go.Proofs.Ytpjmceiegogobaa
open Go.RowKit

theorem jobB_any (b o : Nat) (x : Job) (w : World) (hx : JobAt w b o x) : Calls Try.prog 25 #[.pointer (some ⟨b, o, none⟩)] w fun e w' => e = .returned (.bool (jobMay x)) ∧ Below w.heap.size w w' :=
  (job_any b o x w hx).mono fun e w' ⟨h1, m, h2⟩ => ⟨h1, h2 ▸ below_drewN (Below.refl _ _) m⟩
set_option maxRecDepth 100000 in
set_option maxHeartbeats 8000000 in
theorem rowMay_any (rb : Nat) (v : Value) (js : List Job) (w : World) (hr : w.cell? ⟨rb, 0, none⟩ = some v) (hv : JobsV w v js) :
    Calls Try.prog 24 #[.pointer (some ⟨rb, 0, none⟩)] w fun e w' => e = .returned (.bool (jobsMay js)) ∧ Below w.heap.size w w' := by
  obtain ⟨a, cap, rfl, h2, h3, h4, h5⟩ := hv
  have H := Lib.hid h5
  have HR := Lib.hid hr
  have hl : js.length ≤ 1000000000000000 := by omega
  clear h5
  go_enter Try.func24, Try.ntmps24
  go_wp2_with fail
  clear hr
  go_loopw [3, 9] (fun _ i wr => ∃ k : Nat, k ≤ js.length ∧ i = .int .i64 k ∧ Hid (∀ i, i < k → okAt js i = true) ∧ Below w.heap.size w wr) (fun _ i _ => js.length - (intOf i).toNat)
  case atStart => exact ⟨0, by omega, rfl, Lib.hid (fun i h => by omega), Below.refl _ _⟩
  case round =>
    obtain ⟨k, hk, rfl, HD, hB⟩ := hrel
    have HB := Lib.hid hB
    have r0 := Ext.below hB _ _ HR.out
    clear hB
    by_cases hlt : k < js.length
    · obtain ⟨b, off, rfl, hc⟩ := H.out (by intro h; rw [h] at hlt; simp at hlt)
      have HX := Lib.hid (JobAt.ext (Ext.below HB.out) (hc k hlt))
      have hD : Below wr.heap.size wr wr.drew := below_drew (Below.refl _ _)
      by_cases hj : jobMay js[k] = false
      · have HJ := Lib.hid hj
        have HN := Lib.hid (jobsMay_no hlt (okAt_job hlt hj))
        clear hj
        have HJQ := Lib.hid (fun n => HJ.out ▸ job_any b (off + k * 7) js[k] (wr.drewN n) (JobAt.ext (Ext.drewN wr n) HX.out))
        clear hD hc
        go_wp2_with fail
        go_quiet ((go_at_call 25; exact Calls.quiet_of (HJQ.out _)))
        go_wp2_with fail
        go_ret
        exact ⟨ret_bool HN.out.symm, below_drewN HB.out _⟩
      · have hj : jobMay js[k] = true := by simpa using hj
        have HJ := Lib.hid hj
        clear hc
        rcases k with _ | p
        · have HN := Lib.hid (okAt_first hlt hj)
          clear hj
          have HJQ := Lib.hid (fun n => HJ.out ▸ job_any b (off + 0 * 7) js[0] (wr.drewN n) (JobAt.ext (Ext.drewN wr n) HX.out))
          rw [Nat.zero_mul, Nat.add_zero] at HJQ
          clear hD
          go_wp2_with fail
          go_quiet ((go_at_call 25; exact Calls.quiet_of (HJQ.out _)))
          go_wp2_with fail
          go_roundw
          case rel => exact ⟨1, by omega, by go_num, Lib.hid (ok_snoc HD.out HN.out), below_drewN HB.out _⟩
          case measure => simp [intOf]; omega
        · have HN := Lib.hid (okAt_next hlt hj)
          clear hj
          have hlt' : p < js.length := by omega
          have s1 : (0 : Int) ≤ (p : Int) + 1 := by omega
          have s2 : (p : Int) + 1 < (js.length : Int) := by omega
          have s3 : (p : Int) < (js.length : Int) := by omega
          have s4 : ((p : Int) + 1).toNat = p + 1 := by omega
          have s5 : IntKind.i64.wrap (p : Int) = p := by rw [IntKind.wrap_i64]; omega
          obtain ⟨b', off', e', hc'⟩ := H.out (by intro h; rw [h] at hlt; simp at hlt)
          injection e' with e'
          injection e' with e1 e2
          subst e1; subst e2
          obtain ⟨y0, y1, y2, y3, y4, y5, y6⟩ := HX.out
          obtain ⟨z0, z1, z2, z3, z4, z5, z6⟩ := JobAt.ext (Ext.below HB.out) (hc' p hlt')
          unfold IntAt at y0 y1 y2 y3 y4 y5 y6 z0 z1 z2 z3 z4 z5 z6
          clear hc'
          have hS0 : (fun w' : World => w'.cell? ⟨rb, 0, none⟩ = some (.slice (some ⟨b, off, none⟩) js.length cap) ∧ w'.cell? ⟨b, off + (p + 1) * 7, none⟩ = some (.int .i64 js[p + 1].task) ∧ w'.cell? ⟨b, off + (p + 1) * 7 + 1, none⟩ = some (.int .i64 js[p + 1].seq) ∧ w'.cell? ⟨b, off + (p + 1) * 7 + 2, none⟩ = some (.int .i64 js[p + 1].prio) ∧ w'.cell? ⟨b, off + (p + 1) * 7 + 3, none⟩ = some (.int .i64 js[p + 1].release) ∧ w'.cell? ⟨b, off + (p + 1) * 7 + 4, none⟩ = some (.int .i64 js[p + 1].deadline) ∧ w'.cell? ⟨b, off + (p + 1) * 7 + 5, none⟩ = some (.int .i64 js[p + 1].demand) ∧ w'.cell? ⟨b, off + (p + 1) * 7 + 6, none⟩ = some (.int .i64 js[p + 1].used) ∧ w'.cell? ⟨b, off + p * 7, none⟩ = some (.int .i64 js[p].task) ∧ w'.cell? ⟨b, off + p * 7 + 1, none⟩ = some (.int .i64 js[p].seq) ∧ w'.cell? ⟨b, off + p * 7 + 2, none⟩ = some (.int .i64 js[p].prio) ∧ w'.cell? ⟨b, off + p * 7 + 3, none⟩ = some (.int .i64 js[p].release) ∧ w'.cell? ⟨b, off + p * 7 + 4, none⟩ = some (.int .i64 js[p].deadline) ∧ w'.cell? ⟨b, off + p * 7 + 5, none⟩ = some (.int .i64 js[p].demand) ∧ w'.cell? ⟨b, off + p * 7 + 6, none⟩ = some (.int .i64 js[p].used) ∧ Below wr.heap.size wr w') wr.drew := ⟨r0, y0, y1, y2, y3, y4, y5, y6, z0, z1, z2, z3, z4, z5, z6, hD⟩
          have kS : ∀ W W' : World, (fun w' : World => w'.cell? ⟨rb, 0, none⟩ = some (.slice (some ⟨b, off, none⟩) js.length cap) ∧ w'.cell? ⟨b, off + (p + 1) * 7, none⟩ = some (.int .i64 js[p + 1].task) ∧ w'.cell? ⟨b, off + (p + 1) * 7 + 1, none⟩ = some (.int .i64 js[p + 1].seq) ∧ w'.cell? ⟨b, off + (p + 1) * 7 + 2, none⟩ = some (.int .i64 js[p + 1].prio) ∧ w'.cell? ⟨b, off + (p + 1) * 7 + 3, none⟩ = some (.int .i64 js[p + 1].release) ∧ w'.cell? ⟨b, off + (p + 1) * 7 + 4, none⟩ = some (.int .i64 js[p + 1].deadline) ∧ w'.cell? ⟨b, off + (p + 1) * 7 + 5, none⟩ = some (.int .i64 js[p + 1].demand) ∧ w'.cell? ⟨b, off + (p + 1) * 7 + 6, none⟩ = some (.int .i64 js[p + 1].used) ∧ w'.cell? ⟨b, off + p * 7, none⟩ = some (.int .i64 js[p].task) ∧ w'.cell? ⟨b, off + p * 7 + 1, none⟩ = some (.int .i64 js[p].seq) ∧ w'.cell? ⟨b, off + p * 7 + 2, none⟩ = some (.int .i64 js[p].prio) ∧ w'.cell? ⟨b, off + p * 7 + 3, none⟩ = some (.int .i64 js[p].release) ∧ w'.cell? ⟨b, off + p * 7 + 4, none⟩ = some (.int .i64 js[p].deadline) ∧ w'.cell? ⟨b, off + p * 7 + 5, none⟩ = some (.int .i64 js[p].demand) ∧ w'.cell? ⟨b, off + p * 7 + 6, none⟩ = some (.int .i64 js[p].used) ∧ Below wr.heap.size wr w') W → Below W.heap.size W W' → (fun w' : World => w'.cell? ⟨rb, 0, none⟩ = some (.slice (some ⟨b, off, none⟩) js.length cap) ∧ w'.cell? ⟨b, off + (p + 1) * 7, none⟩ = some (.int .i64 js[p + 1].task) ∧ w'.cell? ⟨b, off + (p + 1) * 7 + 1, none⟩ = some (.int .i64 js[p + 1].seq) ∧ w'.cell? ⟨b, off + (p + 1) * 7 + 2, none⟩ = some (.int .i64 js[p + 1].prio) ∧ w'.cell? ⟨b, off + (p + 1) * 7 + 3, none⟩ = some (.int .i64 js[p + 1].release) ∧ w'.cell? ⟨b, off + (p + 1) * 7 + 4, none⟩ = some (.int .i64 js[p + 1].deadline) ∧ w'.cell? ⟨b, off + (p + 1) * 7 + 5, none⟩ = some (.int .i64 js[p + 1].demand) ∧ w'.cell? ⟨b, off + (p + 1) * 7 + 6, none⟩ = some (.int .i64 js[p + 1].used) ∧ w'.cell? ⟨b, off + p * 7, none⟩ = some (.int .i64 js[p].task) ∧ w'.cell? ⟨b, off + p * 7 + 1, none⟩ = some (.int .i64 js[p].seq) ∧ w'.cell? ⟨b, off + p * 7 + 2, none⟩ = some (.int .i64 js[p].prio) ∧ w'.cell? ⟨b, off + p * 7 + 3, none⟩ = some (.int .i64 js[p].release) ∧ w'.cell? ⟨b, off + p * 7 + 4, none⟩ = some (.int .i64 js[p].deadline) ∧ w'.cell? ⟨b, off + p * 7 + 5, none⟩ = some (.int .i64 js[p].demand) ∧ w'.cell? ⟨b, off + p * 7 + 6, none⟩ = some (.int .i64 js[p].used) ∧ Below wr.heap.size wr w') W' := by
            rintro W W' ⟨b0, b1, b2, b3, b4, b5, b6, b7, b8, b9, b10, b11, b12, b13, b14, hB⟩ hb
            exact ⟨Ext.below hb _ _ b0, Ext.below hb _ _ b1, Ext.below hb _ _ b2, Ext.below hb _ _ b3, Ext.below hb _ _ b4, Ext.below hb _ _ b5, Ext.below hb _ _ b6, Ext.below hb _ _ b7, Ext.below hb _ _ b8, Ext.below hb _ _ b9, Ext.below hb _ _ b10, Ext.below hb _ _ b11, Ext.below hb _ _ b12, Ext.below hb _ _ b13, Ext.below hb _ _ b14, bthen hB hb⟩
          obtain ⟨q, hq⟩ : ∃ q, q = cmpJ js[p] js[p + 1] := ⟨_, rfl⟩
          have HQ := Lib.hid hq
          clear hq y0 y1 y2 y3 y4 y5 y6 z0 z1 z2 z3 z4 z5 z6 r0
          by_cases ha : q < 0
          · have HA := Lib.hid (show okAt js (p + 1) = true by rw [HN.out]; exact (cmpJ_neg _ _).1 (HQ.out ▸ ha))
            have eq0 : decide ((0 : Int) ≤ q) = false := decide_eq_false (by omega)
            clear ha
            go_wp2_with fail
            go_region_held3 (fun w' : World => w'.cell? ⟨rb, 0, none⟩ = some (.slice (some ⟨b, off, none⟩) js.length cap) ∧ w'.cell? ⟨b, off + (p + 1) * 7, none⟩ = some (.int .i64 js[p + 1].task) ∧ w'.cell? ⟨b, off + (p + 1) * 7 + 1, none⟩ = some (.int .i64 js[p + 1].seq) ∧ w'.cell? ⟨b, off + (p + 1) * 7 + 2, none⟩ = some (.int .i64 js[p + 1].prio) ∧ w'.cell? ⟨b, off + (p + 1) * 7 + 3, none⟩ = some (.int .i64 js[p + 1].release) ∧ w'.cell? ⟨b, off + (p + 1) * 7 + 4, none⟩ = some (.int .i64 js[p + 1].deadline) ∧ w'.cell? ⟨b, off + (p + 1) * 7 + 5, none⟩ = some (.int .i64 js[p + 1].demand) ∧ w'.cell? ⟨b, off + (p + 1) * 7 + 6, none⟩ = some (.int .i64 js[p + 1].used) ∧ w'.cell? ⟨b, off + p * 7, none⟩ = some (.int .i64 js[p].task) ∧ w'.cell? ⟨b, off + p * 7 + 1, none⟩ = some (.int .i64 js[p].seq) ∧ w'.cell? ⟨b, off + p * 7 + 2, none⟩ = some (.int .i64 js[p].prio) ∧ w'.cell? ⟨b, off + p * 7 + 3, none⟩ = some (.int .i64 js[p].release) ∧ w'.cell? ⟨b, off + p * 7 + 4, none⟩ = some (.int .i64 js[p].deadline) ∧ w'.cell? ⟨b, off + p * 7 + 5, none⟩ = some (.int .i64 js[p].demand) ∧ w'.cell? ⟨b, off + p * 7 + 6, none⟩ = some (.int .i64 js[p].used) ∧ Below wr.heap.size wr w') (first | exact hS0 | exact kS _ _ hS0 hb5 | exact kS _ _ (kS _ _ hS0 hb5) hb6) (first | (go_at_call 25; refine (jobB_any _ _ js[p + 1] _ (HX.out.ext (Ext.below hD))).mono ?_; rw [HJ.out]; rintro e w5 ⟨rfl, hb5⟩) | (go_at_call 31; refine (compare_any js[p] js[p + 1] _).mono ?_; rw [← HQ.out]; rintro e w6 ⟨rfl, hb6⟩))
            go_wp2_with fail
            go_roundw
            case rel => exact ⟨p + 2, by omega, by go_num, Lib.hid (ok_snoc HD.out HA.out), bthen HB.out (bthen (bthen hD hb5) hb6)⟩
            case measure => simp [intOf]; omega
          · have HA := Lib.hid (jobsMay_no hlt (show okAt js (p + 1) = false by rw [HN.out]; exact Bool.eq_false_iff.2 (fun h => ha (HQ.out ▸ (cmpJ_neg _ _).2 h))))
            have eq0 : decide ((0 : Int) ≤ q) = true := decide_eq_true (by omega)
            clear ha
            go_wp2_with fail
            go_region_held3 (fun w' : World => w'.cell? ⟨rb, 0, none⟩ = some (.slice (some ⟨b, off, none⟩) js.length cap) ∧ w'.cell? ⟨b, off + (p + 1) * 7, none⟩ = some (.int .i64 js[p + 1].task) ∧ w'.cell? ⟨b, off + (p + 1) * 7 + 1, none⟩ = some (.int .i64 js[p + 1].seq) ∧ w'.cell? ⟨b, off + (p + 1) * 7 + 2, none⟩ = some (.int .i64 js[p + 1].prio) ∧ w'.cell? ⟨b, off + (p + 1) * 7 + 3, none⟩ = some (.int .i64 js[p + 1].release) ∧ w'.cell? ⟨b, off + (p + 1) * 7 + 4, none⟩ = some (.int .i64 js[p + 1].deadline) ∧ w'.cell? ⟨b, off + (p + 1) * 7 + 5, none⟩ = some (.int .i64 js[p + 1].demand) ∧ w'.cell? ⟨b, off + (p + 1) * 7 + 6, none⟩ = some (.int .i64 js[p + 1].used) ∧ w'.cell? ⟨b, off + p * 7, none⟩ = some (.int .i64 js[p].task) ∧ w'.cell? ⟨b, off + p * 7 + 1, none⟩ = some (.int .i64 js[p].seq) ∧ w'.cell? ⟨b, off + p * 7 + 2, none⟩ = some (.int .i64 js[p].prio) ∧ w'.cell? ⟨b, off + p * 7 + 3, none⟩ = some (.int .i64 js[p].release) ∧ w'.cell? ⟨b, off + p * 7 + 4, none⟩ = some (.int .i64 js[p].deadline) ∧ w'.cell? ⟨b, off + p * 7 + 5, none⟩ = some (.int .i64 js[p].demand) ∧ w'.cell? ⟨b, off + p * 7 + 6, none⟩ = some (.int .i64 js[p].used) ∧ Below wr.heap.size wr w') (first | exact hS0 | exact kS _ _ hS0 hb5 | exact kS _ _ (kS _ _ hS0 hb5) hb6) (first | (go_at_call 25; refine (jobB_any _ _ js[p + 1] _ (HX.out.ext (Ext.below hD))).mono ?_; rw [HJ.out]; rintro e w5 ⟨rfl, hb5⟩) | (go_at_call 31; refine (compare_any js[p] js[p + 1] _).mono ?_; rw [← HQ.out]; rintro e w6 ⟨rfl, hb6⟩))
            go_wp2_with fail
            go_ret
            exact ⟨ret_bool HA.out.symm, bthen HB.out (bthen (bthen hD hb5) hb6)⟩
    · obtain rfl : k = js.length := by omega
      have HY := Lib.hid (jobsMay_yes HD.out)
      go_wp2_with fail
      go_ret
      exact ⟨ret_bool (by rw [HY.out]; (rw [Bool.eq_iff_iff]; (try simp only [beq_iff_eq, beq_eq_false_iff_ne, ne_eq] at *); (try simp); (try omega))), HB.out⟩
set_option maxRecDepth 100000 in
set_option maxHeartbeats 400000 in
theorem readyMay_any (v : Value) (js : List Job) (w : World) (hv : JobsV w v js) :
    Calls Try.prog 18 #[v] w fun e w' => e = .returned (.bool (jobsMay js)) ∧ Below w.heap.size w w' := by
  obtain ⟨a, cap, rfl, -⟩ := id hv
  have HV := Lib.hid (JobsV.ext (Ext.alloc w (.cells #[.slice a js.length cap] 50)) hv)
  have HB := Lib.hid (balloc w (.cells #[.slice a js.length cap] 50))
  clear hv
  go_enter Try.func18, Try.ntmps18
  go_wp2_with fail
  refine (rowMay_any _ _ js _ (box_at 0 rfl) HV.out).mono ?_
  rintro e w1 ⟨rfl, hb1⟩
  have HB1 := Lib.hid (bthen HB.out hb1)
  clear hb1
  go_wp2_with fail
  go_ret
  exact ⟨rfl, HB1.out⟩
end Go.Proofs.Ytpjmceiegogobaa
