/- Several texts of this claim as one. -/
import Derived.Test.YtooeeiiiflfckaaGreatJobA
import Derived.Test.YtooeeiiiflfckaaGreatJobB
/- May a job be, may jobs be: both packages. -/
set_option linter.unusedVariables false
set_option linter.unusedSimpArgs false
namespace Go.Proofs.YtooeeiiiflfckaaGreat
open Go.RowKit
def jz : Job := ⟨0, 0, 0, 0, 0, 0, 0⟩
def okAt (js : List Job) (i : Nat) : Bool := jobMay (js.getD i jz) && (decide (i = 0) || ahead (js.getD (i - 1) jz) (js.getD i jz))
def jobsMay (js : List Job) : Bool := (List.range js.length).all (okAt js) && decide (js.length <= 16)
theorem jobsMay_no {js : List Job} {k : Nat} (hk : k < js.length) (h : okAt js k = false) : jobsMay js = false := by
 unfold jobsMay
 rw [Bool.and_eq_false_iff]
 left
 rw [List.all_eq_false]
 exact ⟨k, by simpa using hk, by simp [h]⟩
theorem jobsMay_yes {js : List Job} (h : ∀ i, i < js.length -> okAt js i = true) : jobsMay js = decide (js.length <= 16) := by
 unfold jobsMay
 rw [show (List.range js.length).all (okAt js) = true by rw [List.all_eq_true]; intro i hi; exact h i (by simpa using hi)]
 simp
theorem getD_at {js : List Job} {k : Nat} (hk : k < js.length) : js.getD k jz = js[k] := by
 simp [List.getD, List.getElem?_eq_getElem hk]
theorem okAt_job {js : List Job} {k : Nat} (hk : k < js.length) (h : jobMay js[k] = false) : okAt js k = false := by
 unfold okAt
 rw [getD_at hk, h]
 rfl
theorem okAt_first {js : List Job} (hk : 0 < js.length) (h : jobMay js[0] = true) : okAt js 0 = true := by
 unfold okAt
 rw [getD_at hk, h]
 rfl
theorem okAt_next {js : List Job} {k : Nat} (hk : k + 1 < js.length) (h : jobMay js[k + 1] = true) : okAt js (k + 1) = ahead js[k] js[k + 1] := by
 unfold okAt
 rw [getD_at hk, h, Nat.add_sub_cancel, getD_at (by omega)]
 simp
theorem ok_snoc {js : List Job} {k : Nat} (h : ∀ i, i < k -> okAt js i = true) (hk : okAt js k = true) : ∀ i, i < k + 1 -> okAt js i = true := by
 intro i hi
 rcases Nat.lt_succ_iff_lt_or_eq.1 hi with h' | rfl
 ·exact h i h'
 ·exact hk
set_option maxRecDepth 100000 in
set_option maxHeartbeats 1000000 in
theorem job_any (b o : Nat) (x : Job) (w : World) (hx : JobAt w b o x) : Calls Tryz.prog 135 #[.pointer (some ⟨b, o, none⟩)] w fun e w' => e = .returned (.bool (jobMay x)) /\ ∃ m, w' = w.drewN m := by
 by_cases c0 : ¬ (0 <= x.prio)
 ·rw [show jobMay x = false by unfold jobMay; simp <;> omega]
  exact job_leaf0 b o x w hx (decide_eq_false c0)
 have e0 : decide (0 <= x.prio) = true := decide_eq_true (Decidable.not_not.1 c0)
 by_cases c1 : ¬ (x.prio <= 255)
 ·rw [show jobMay x = false by unfold jobMay; simp <;> omega]
  exact job_leaf1 b o x w hx e0 (decide_eq_false c1)
 have e1 : decide (x.prio <= 255) = true := decide_eq_true (Decidable.not_not.1 c1)
 by_cases c2 : ¬ (0 <= x.release /\ x.release <= 1099511627776)
 ·rw [show jobMay x = false by unfold jobMay; simp <;> omega]
  exact job_leaf2 b o x w hx e0 e1 (decide_eq_false c2)
 have e2 : decide (0 <= x.release /\ x.release <= 1099511627776) = true := decide_eq_true (Decidable.not_not.1 c2)
 by_cases c3 : ¬ (x.release < x.deadline)
 ·rw [show jobMay x = false by unfold jobMay; simp <;> omega]
  exact job_leaf3 b o x w hx e0 e1 e2 (decide_eq_false c3)
 have e3 : decide (x.release < x.deadline) = true := decide_eq_true (Decidable.not_not.1 c3)
 by_cases c4 : ¬ (1 <= x.demand /\ x.demand <= 65535)
 ·rw [show jobMay x = false by unfold jobMay; simp <;> omega]
  exact job_leaf4 b o x w hx e0 e1 e2 e3 (decide_eq_false c4)
 have e4 : decide (1 <= x.demand /\ x.demand <= 65535) = true := decide_eq_true (Decidable.not_not.1 c4)
 by_cases c5 : ¬ (0 <= x.used)
 ·rw [show jobMay x = false by unfold jobMay; simp <;> omega]
  exact job_leaf5 b o x w hx e0 e1 e2 e3 e4 (decide_eq_false c5)
 have e5 : decide (0 <= x.used) = true := decide_eq_true (Decidable.not_not.1 c5)
 by_cases c6 : ¬ (x.used < x.demand)
 ·rw [show jobMay x = false by unfold jobMay; simp <;> omega]
  exact job_leaf6 b o x w hx e0 e1 e2 e3 e4 e5 (decide_eq_false c6)
 have e6 : decide (x.used < x.demand) = true := decide_eq_true (Decidable.not_not.1 c6)
 by_cases c7 : ¬ (0 <= x.task)
 ·rw [show jobMay x = false by unfold jobMay; simp <;> omega]
  exact job_leaf7 b o x w hx e0 e1 e2 e3 e4 e5 e6 (decide_eq_false c7)
 have e7 : decide (0 <= x.task) = true := decide_eq_true (Decidable.not_not.1 c7)
 by_cases c8 : ¬ (x.task < 6)
 ·rw [show jobMay x = false by unfold jobMay; simp <;> omega]
  exact job_leaf8 b o x w hx e0 e1 e2 e3 e4 e5 e6 e7 (decide_eq_false c8)
 have e8 : decide (x.task < 6) = true := decide_eq_true (Decidable.not_not.1 c8)
 by_cases c9 : ¬ (0 <= x.seq)
 ·rw [show jobMay x = false by unfold jobMay; simp <;> omega]
  exact job_leaf9 b o x w hx e0 e1 e2 e3 e4 e5 e6 e7 e8 (decide_eq_false c9)
 have e9 : decide (0 <= x.seq) = true := decide_eq_true (Decidable.not_not.1 c9)
 rw [show jobMay x = true by unfold jobMay; simp <;> omega]
 exact job_leaf10 b o x w hx e0 e1 e2 e3 e4 e5 e6 e7 e8 e9
end Go.Proofs.YtooeeiiiflfckaaGreat
/- May jobs be: ready's row.may and May, the reference's JobsMay. -/
namespace Go.Proofs.YtooeeiiiflfckaaGreat
open Go.RowKit
theorem jobB_any (b o : Nat) (x : Job) (w : World) (hx : JobAt w b o x) : Calls Tryz.prog 135 #[.pointer (some ⟨b, o, none⟩)] w fun e w' => e = .returned (.bool (jobMay x)) /\ Below w.heap.size w w' :=
 (job_any b o x w hx).mono fun e w' ⟨h1, m, h2⟩ => ⟨h1, h2 ▸ below_drewN (Below.refl _ _) m⟩
set_option maxRecDepth 100000 in
set_option maxHeartbeats 8000000 in
theorem rowMay_any (rb : Nat) (v : Value) (js : List Job) (w : World) (hr : w.cell? ⟨rb, 0, none⟩ = some v) (hv : JobsV w v js) :
  Calls Tryz.prog 133 #[.pointer (some ⟨rb, 0, none⟩)] w fun e w' => e = .returned (.bool (jobsMay js)) /\ Below w.heap.size w w' := by
 obtain ⟨a, cap, rfl, h2, h3, h4, h5⟩ := hv
 have H := Lib.hid h5
 have HR := Lib.hid hr
 have hl : js.length <= 1000000000000000 := by omega
 clear h5
 go_enter Tryz.func133, Tryz.ntmps133
 go_wp2_with fail
 clear hr
 go_loopw [3, 9] (fun _ i wr => ∃ k : Nat, k <= js.length /\ i = .int .i64 k /\ Hid (∀ i, i < k -> okAt js i = true) /\ Below w.heap.size w wr) (fun _ i _ => js.length - (intOf i).toNat)
 case atStart => exact ⟨0, by omega, rfl, Lib.hid (fun i h => by omega), Below.refl _ _⟩
 case round =>
  obtain ⟨k, hk, rfl, HD, hB⟩ := hrel
  have HB := Lib.hid hB
  have r0 := Ext.below hB _ _ HR.out
  clear hB
  by_cases hlt : k < js.length
  ·obtain ⟨b, off, rfl, hc⟩ := H.out (by intro h; rw [h] at hlt; simp at hlt)
   have HX := Lib.hid (JobAt.ext (Ext.below HB.out) (hc k hlt))
   have hD : Below wr.heap.size wr wr.drew := below_drew (Below.refl _ _)
   by_cases hj : jobMay js[k] = false
   ·have HJ := Lib.hid hj
    have HN := Lib.hid (jobsMay_no hlt (okAt_job hlt hj))
    clear hj
    have HJQ := Lib.hid (fun n => HJ.out ▸ job_any b (off + k * 7) js[k] (wr.drewN n) (JobAt.ext (Ext.drewN wr n) HX.out))
    clear hD hc
    go_wp2_with fail
    go_quiet ((go_at_call 135; exact Calls.quiet_of (HJQ.out _)))
    go_wp2_with fail
    go_ret
    exact ⟨ret_bool HN.out.symm, below_drewN HB.out _⟩
   ·have hj : jobMay js[k] = true := by simpa using hj
    have HJ := Lib.hid hj
    clear hc
    rcases k with _ | p
    ·have HN := Lib.hid (okAt_first hlt hj)
     clear hj
     have HJQ := Lib.hid (fun n => HJ.out ▸ job_any b (off + 0 * 7) js[0] (wr.drewN n) (JobAt.ext (Ext.drewN wr n) HX.out))
     rw [Nat.zero_mul, Nat.add_zero] at HJQ
     clear hD
     go_wp2_with fail
     go_quiet ((go_at_call 135; exact Calls.quiet_of (HJQ.out _)))
     go_wp2_with fail
     go_roundw
     case rel => exact ⟨1, by omega, by go_num, Lib.hid (ok_snoc HD.out HN.out), below_drewN HB.out _⟩
     case measure => simp [intOf]; omega
    ·have HN := Lib.hid (okAt_next hlt hj)
     clear hj
     have hlt' : p < js.length := by omega
     have s1 : (0 : Int) <= (p : Int) + 1 := by omega
     have s2 : (p : Int) + 1 < (js.length : Int) := by omega
     have s3 : (p : Int) < (js.length : Int) := by omega
     have s4 : ((p : Int) + 1).toNat = p + 1 := by omega
     have s5 : IntKind.i64.wrap (p : Int) = p := by rw [IntKind.wrap_i64]; omega
     obtain ⟨b', off', e', hc'⟩ := H.out (by intro h; rw [h] at hlt; simp at hlt)
     injection e' with e'
     injection e' with e1 e2
     subst e1; subst e2
     obtain ⟨y0, y1, y2, y3, y4, y5, y6⟩ := HX.out
     obtain ⟨z0, z1, z2, z3, z4, z5, z6⟩ := JobAt.ext (Ext.below HB.out) (hc' p hlt')
     unfold IntAt at y0 y1 y2 y3 y4 y5 y6 z0 z1 z2 z3 z4 z5 z6
     clear hc'
     have hS0 : (fun w' : World => w'.cell? ⟨rb, 0, none⟩ = some (.slice (some ⟨b, off, none⟩) js.length cap) /\ w'.cell? ⟨b, off + (p + 1) * 7, none⟩ = some (.int .i64 js[p + 1].task) /\ w'.cell? ⟨b, off + (p + 1) * 7 + 1, none⟩ = some (.int .i64 js[p + 1].seq) /\ w'.cell? ⟨b, off + (p + 1) * 7 + 2, none⟩ = some (.int .i64 js[p + 1].prio) /\ w'.cell? ⟨b, off + (p + 1) * 7 + 3, none⟩ = some (.int .i64 js[p + 1].release) /\ w'.cell? ⟨b, off + (p + 1) * 7 + 4, none⟩ = some (.int .i64 js[p + 1].deadline) /\ w'.cell? ⟨b, off + (p + 1) * 7 + 5, none⟩ = some (.int .i64 js[p + 1].demand) /\ w'.cell? ⟨b, off + (p + 1) * 7 + 6, none⟩ = some (.int .i64 js[p + 1].used) /\ w'.cell? ⟨b, off + p * 7, none⟩ = some (.int .i64 js[p].task) /\ w'.cell? ⟨b, off + p * 7 + 1, none⟩ = some (.int .i64 js[p].seq) /\ w'.cell? ⟨b, off + p * 7 + 2, none⟩ = some (.int .i64 js[p].prio) /\ w'.cell? ⟨b, off + p * 7 + 3, none⟩ = some (.int .i64 js[p].release) /\ w'.cell? ⟨b, off + p * 7 + 4, none⟩ = some (.int .i64 js[p].deadline) /\ w'.cell? ⟨b, off + p * 7 + 5, none⟩ = some (.int .i64 js[p].demand) /\ w'.cell? ⟨b, off + p * 7 + 6, none⟩ = some (.int .i64 js[p].used) /\ Below wr.heap.size wr w') wr.drew := ⟨r0, y0, y1, y2, y3, y4, y5, y6, z0, z1, z2, z3, z4, z5, z6, hD⟩
     have kS : ∀ W W' : World, (fun w' : World => w'.cell? ⟨rb, 0, none⟩ = some (.slice (some ⟨b, off, none⟩) js.length cap) /\ w'.cell? ⟨b, off + (p + 1) * 7, none⟩ = some (.int .i64 js[p + 1].task) /\ w'.cell? ⟨b, off + (p + 1) * 7 + 1, none⟩ = some (.int .i64 js[p + 1].seq) /\ w'.cell? ⟨b, off + (p + 1) * 7 + 2, none⟩ = some (.int .i64 js[p + 1].prio) /\ w'.cell? ⟨b, off + (p + 1) * 7 + 3, none⟩ = some (.int .i64 js[p + 1].release) /\ w'.cell? ⟨b, off + (p + 1) * 7 + 4, none⟩ = some (.int .i64 js[p + 1].deadline) /\ w'.cell? ⟨b, off + (p + 1) * 7 + 5, none⟩ = some (.int .i64 js[p + 1].demand) /\ w'.cell? ⟨b, off + (p + 1) * 7 + 6, none⟩ = some (.int .i64 js[p + 1].used) /\ w'.cell? ⟨b, off + p * 7, none⟩ = some (.int .i64 js[p].task) /\ w'.cell? ⟨b, off + p * 7 + 1, none⟩ = some (.int .i64 js[p].seq) /\ w'.cell? ⟨b, off + p * 7 + 2, none⟩ = some (.int .i64 js[p].prio) /\ w'.cell? ⟨b, off + p * 7 + 3, none⟩ = some (.int .i64 js[p].release) /\ w'.cell? ⟨b, off + p * 7 + 4, none⟩ = some (.int .i64 js[p].deadline) /\ w'.cell? ⟨b, off + p * 7 + 5, none⟩ = some (.int .i64 js[p].demand) /\ w'.cell? ⟨b, off + p * 7 + 6, none⟩ = some (.int .i64 js[p].used) /\ Below wr.heap.size wr w') W -> Below W.heap.size W W' -> (fun w' : World => w'.cell? ⟨rb, 0, none⟩ = some (.slice (some ⟨b, off, none⟩) js.length cap) /\ w'.cell? ⟨b, off + (p + 1) * 7, none⟩ = some (.int .i64 js[p + 1].task) /\ w'.cell? ⟨b, off + (p + 1) * 7 + 1, none⟩ = some (.int .i64 js[p + 1].seq) /\ w'.cell? ⟨b, off + (p + 1) * 7 + 2, none⟩ = some (.int .i64 js[p + 1].prio) /\ w'.cell? ⟨b, off + (p + 1) * 7 + 3, none⟩ = some (.int .i64 js[p + 1].release) /\ w'.cell? ⟨b, off + (p + 1) * 7 + 4, none⟩ = some (.int .i64 js[p + 1].deadline) /\ w'.cell? ⟨b, off + (p + 1) * 7 + 5, none⟩ = some (.int .i64 js[p + 1].demand) /\ w'.cell? ⟨b, off + (p + 1) * 7 + 6, none⟩ = some (.int .i64 js[p + 1].used) /\ w'.cell? ⟨b, off + p * 7, none⟩ = some (.int .i64 js[p].task) /\ w'.cell? ⟨b, off + p * 7 + 1, none⟩ = some (.int .i64 js[p].seq) /\ w'.cell? ⟨b, off + p * 7 + 2, none⟩ = some (.int .i64 js[p].prio) /\ w'.cell? ⟨b, off + p * 7 + 3, none⟩ = some (.int .i64 js[p].release) /\ w'.cell? ⟨b, off + p * 7 + 4, none⟩ = some (.int .i64 js[p].deadline) /\ w'.cell? ⟨b, off + p * 7 + 5, none⟩ = some (.int .i64 js[p].demand) /\ w'.cell? ⟨b, off + p * 7 + 6, none⟩ = some (.int .i64 js[p].used) /\ Below wr.heap.size wr w') W' := by
      rintro W W' ⟨b0, b1, b2, b3, b4, b5, b6, b7, b8, b9, b10, b11, b12, b13, b14, hB⟩ hb
      exact ⟨Ext.below hb _ _ b0, Ext.below hb _ _ b1, Ext.below hb _ _ b2, Ext.below hb _ _ b3, Ext.below hb _ _ b4, Ext.below hb _ _ b5, Ext.below hb _ _ b6, Ext.below hb _ _ b7, Ext.below hb _ _ b8, Ext.below hb _ _ b9, Ext.below hb _ _ b10, Ext.below hb _ _ b11, Ext.below hb _ _ b12, Ext.below hb _ _ b13, Ext.below hb _ _ b14, bthen hB hb⟩
     obtain ⟨q, hq⟩ : ∃ q, q = cmpJ js[p] js[p + 1] := ⟨_, rfl⟩
     have HQ := Lib.hid hq
     clear hq y0 y1 y2 y3 y4 y5 y6 z0 z1 z2 z3 z4 z5 z6 r0
     by_cases ha : q < 0
     ·have HA := Lib.hid (show okAt js (p + 1) = true by rw [HN.out]; exact (cmpJ_neg _ _).1 (HQ.out ▸ ha))
      have eq0 : decide ((0 : Int) <= q) = false := decide_eq_false (by omega)
      clear ha
      go_wp2_with fail
      go_region_held3 (fun w' : World => w'.cell? ⟨rb, 0, none⟩ = some (.slice (some ⟨b, off, none⟩) js.length cap) /\ w'.cell? ⟨b, off + (p + 1) * 7, none⟩ = some (.int .i64 js[p + 1].task) /\ w'.cell? ⟨b, off + (p + 1) * 7 + 1, none⟩ = some (.int .i64 js[p + 1].seq) /\ w'.cell? ⟨b, off + (p + 1) * 7 + 2, none⟩ = some (.int .i64 js[p + 1].prio) /\ w'.cell? ⟨b, off + (p + 1) * 7 + 3, none⟩ = some (.int .i64 js[p + 1].release) /\ w'.cell? ⟨b, off + (p + 1) * 7 + 4, none⟩ = some (.int .i64 js[p + 1].deadline) /\ w'.cell? ⟨b, off + (p + 1) * 7 + 5, none⟩ = some (.int .i64 js[p + 1].demand) /\ w'.cell? ⟨b, off + (p + 1) * 7 + 6, none⟩ = some (.int .i64 js[p + 1].used) /\ w'.cell? ⟨b, off + p * 7, none⟩ = some (.int .i64 js[p].task) /\ w'.cell? ⟨b, off + p * 7 + 1, none⟩ = some (.int .i64 js[p].seq) /\ w'.cell? ⟨b, off + p * 7 + 2, none⟩ = some (.int .i64 js[p].prio) /\ w'.cell? ⟨b, off + p * 7 + 3, none⟩ = some (.int .i64 js[p].release) /\ w'.cell? ⟨b, off + p * 7 + 4, none⟩ = some (.int .i64 js[p].deadline) /\ w'.cell? ⟨b, off + p * 7 + 5, none⟩ = some (.int .i64 js[p].demand) /\ w'.cell? ⟨b, off + p * 7 + 6, none⟩ = some (.int .i64 js[p].used) /\ Below wr.heap.size wr w') (first | exact hS0 | exact kS _ _ hS0 hb5 | exact kS _ _ (kS _ _ hS0 hb5) hb6) (first | (go_at_call 135; refine (jobB_any _ _ js[p + 1] _ (HX.out.ext (Ext.below hD))).mono ?_; rw [HJ.out]; rintro e w5 ⟨rfl, hb5⟩) | (go_at_call 147; refine (compare_any js[p] js[p + 1] _).mono ?_; rw [<- HQ.out]; rintro e w6 ⟨rfl, hb6⟩))
      go_wp2_with fail
      go_roundw
      case rel => exact ⟨p + 2, by omega, by go_num, Lib.hid (ok_snoc HD.out HA.out), bthen HB.out (bthen (bthen hD hb5) hb6)⟩
      case measure => simp [intOf]; omega
     ·have HA := Lib.hid (jobsMay_no hlt (show okAt js (p + 1) = false by rw [HN.out]; exact Bool.eq_false_iff.2 (fun h => ha (HQ.out ▸ (cmpJ_neg _ _).2 h))))
      have eq0 : decide ((0 : Int) <= q) = true := decide_eq_true (by omega)
      clear ha
      go_wp2_with fail
      go_region_held3 (fun w' : World => w'.cell? ⟨rb, 0, none⟩ = some (.slice (some ⟨b, off, none⟩) js.length cap) /\ w'.cell? ⟨b, off + (p + 1) * 7, none⟩ = some (.int .i64 js[p + 1].task) /\ w'.cell? ⟨b, off + (p + 1) * 7 + 1, none⟩ = some (.int .i64 js[p + 1].seq) /\ w'.cell? ⟨b, off + (p + 1) * 7 + 2, none⟩ = some (.int .i64 js[p + 1].prio) /\ w'.cell? ⟨b, off + (p + 1) * 7 + 3, none⟩ = some (.int .i64 js[p + 1].release) /\ w'.cell? ⟨b, off + (p + 1) * 7 + 4, none⟩ = some (.int .i64 js[p + 1].deadline) /\ w'.cell? ⟨b, off + (p + 1) * 7 + 5, none⟩ = some (.int .i64 js[p + 1].demand) /\ w'.cell? ⟨b, off + (p + 1) * 7 + 6, none⟩ = some (.int .i64 js[p + 1].used) /\ w'.cell? ⟨b, off + p * 7, none⟩ = some (.int .i64 js[p].task) /\ w'.cell? ⟨b, off + p * 7 + 1, none⟩ = some (.int .i64 js[p].seq) /\ w'.cell? ⟨b, off + p * 7 + 2, none⟩ = some (.int .i64 js[p].prio) /\ w'.cell? ⟨b, off + p * 7 + 3, none⟩ = some (.int .i64 js[p].release) /\ w'.cell? ⟨b, off + p * 7 + 4, none⟩ = some (.int .i64 js[p].deadline) /\ w'.cell? ⟨b, off + p * 7 + 5, none⟩ = some (.int .i64 js[p].demand) /\ w'.cell? ⟨b, off + p * 7 + 6, none⟩ = some (.int .i64 js[p].used) /\ Below wr.heap.size wr w') (first | exact hS0 | exact kS _ _ hS0 hb5 | exact kS _ _ (kS _ _ hS0 hb5) hb6) (first | (go_at_call 135; refine (jobB_any _ _ js[p + 1] _ (HX.out.ext (Ext.below hD))).mono ?_; rw [HJ.out]; rintro e w5 ⟨rfl, hb5⟩) | (go_at_call 147; refine (compare_any js[p] js[p + 1] _).mono ?_; rw [<- HQ.out]; rintro e w6 ⟨rfl, hb6⟩))
      go_wp2_with fail
      go_ret
      exact ⟨ret_bool HA.out.symm, bthen HB.out (bthen (bthen hD hb5) hb6)⟩
  ·obtain rfl : k = js.length := by omega
   have HY := Lib.hid (jobsMay_yes HD.out)
   go_wp2_with fail
   go_ret
   exact ⟨ret_bool (by rw [HY.out]; (rw [Bool.eq_iff_iff]; (try simp only [beq_iff_eq, beq_eq_false_iff_ne, ne_eq] at *); (try simp); (try omega))), HB.out⟩
set_option maxRecDepth 100000 in
set_option maxHeartbeats 400000 in
theorem readyMay_any (v : Value) (js : List Job) (w : World) (hv : JobsV w v js) :
  Calls Tryz.prog 107 #[v] w fun e w' => e = .returned (.bool (jobsMay js)) /\ Below w.heap.size w w' := by
 obtain ⟨a, cap, rfl, -⟩ := id hv
 have HV := Lib.hid (JobsV.ext (Ext.alloc w (.cells #[.slice a js.length cap] 247)) hv)
 have HB := Lib.hid (balloc w (.cells #[.slice a js.length cap] 247))
 clear hv
 go_enter Tryz.func107, Tryz.ntmps107
 go_wp2_with fail
 refine (rowMay_any _ _ js _ (box_at 0 rfl) HV.out).mono ?_
 rintro e w1 ⟨rfl, hb1⟩
 have HB1 := Lib.hid (bthen HB.out hb1)
 clear hb1
 go_wp2_with fail
 go_ret
 exact ⟨rfl, HB1.out⟩
end Go.Proofs.YtooeeiiiflfckaaGreat
