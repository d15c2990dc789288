/- law0's functions at jobs. -/
import Derived.Test.YtpjmceiegogobaaJobD
set_option linter.unusedVariables false
set_option linter.unusedSimpArgs false
namespace Go.Proofs.Ytpjmceiegogobaa
open Go.RowKit

set_option maxRecDepth 100000 in
set_option maxHeartbeats 400000 in
theorem copyJobs_any (v : Value) (xs : List Job) (w : World) (hv : JobsV w v xs) :
    Calls Try.prog 23 #[v] w fun e w' => ∃ v', e = .returned v' ∧ JobRow w' w.heap.size v' xs ∧ Below w.heap.size w w' := by
  have hsrc := flatJob.src hv
  obtain ⟨a, cap, rfl, g2, g3, g4, g5⟩ := hv
  have hsrc2 : Src (w.alloc (.cells #[] 24)) (.slice a xs.length cap) xs.length (xs.flatMap jobCells) := by
    rcases hsrc with h | ⟨ad, c, e, hc⟩
    · exact .inl h
    · exact .inr ⟨ad, c, e, fun j u hu => Ext.alloc _ _ _ _ (hc j u hu)⟩
  have HS := Lib.hid hsrc2
  clear hsrc hsrc2 g5
  go_enter Try.func23, Try.ntmps23
  go_wp2_with (at_builtin; refine wpList_onto _ rfl (.tmp 3) (.tmp 4) 22 rfl w.heap.size 24 _ 7 56 Try.underlying22 infoJob rfl (by decide) _ 0 [] rfl (own_lit w _ _) xs.length _ HS.out (flat_len _ _ flatJob.len xs) (flat_one flatJob xs) (by simp only [maxLen] at g4 ⊢; omega) (by omega) (by simp) ?_)
  intro v' w' hown hg
  have hown' := Lib.hid (show JobRow w' w.heap.size v' xs by unfold JobRow; simpa using hown)
  have hb : Below w.heap.size w w' := (balloc w (.cells #[] 24)).grown hg (by simp) (fun k hk => by simp [Value.ownBlock] at hk; omega)
  have HBW := Lib.hid hb
  clear hown hg hb
  go_wp2_with fail
  refine bodyPost_ret (v := v') (by simp [results, Try.results23, go_sem]) rfl ⟨_, rfl, hown'.out, HBW.out⟩
set_option maxRecDepth 100000 in
set_option maxHeartbeats 1000000 in
theorem sameJobs_any (v v' : Value) (xs : List Job) (w : World) (hv : JobsV w v xs) (hv' : JobsV w v' xs) :
    Calls Try.prog 15 #[v, v'] w fun e w' => e = .returned (.bool true) ∧ Below w.heap.size w w' := by
  obtain ⟨a, cap, rfl, h2, h3, h4, h5⟩ := hv
  obtain ⟨a', cap', rfl, -, h3', h4', h5'⟩ := hv'
  have H := Lib.hid h5
  have H' := Lib.hid h5'
  have hl : xs.length ≤ 1000000000000000 := by omega
  clear h5 h5'
  go_enter Try.func15, Try.ntmps15
  go_wp2_with fail
  go_loopw [5] (fun i wr => ∃ k : Nat, k ≤ xs.length ∧ i = .int .i64 k ∧ Below w.heap.size w wr) (fun i _ => xs.length - (intOf i).toNat)
  case atStart => exact ⟨0, by omega, rfl, Below.refl _ _⟩
  case round =>
    obtain ⟨k, hk, rfl, hB⟩ := hrel
    have HB := Lib.hid hB
    clear hB
    by_cases hlt : k < xs.length
    · obtain ⟨b, off, rfl, hc⟩ := H.out (by intro h; rw [h] at hlt; simp at hlt)
      obtain ⟨b', off', rfl, hc'⟩ := H'.out (by intro h; rw [h] at hlt; simp at hlt)
      obtain ⟨y0, y1, y2, y3, y4, y5, y6⟩ := JobAt.ext (Ext.below HB.out) (hc k hlt)
      obtain ⟨z0, z1, z2, z3, z4, z5, z6⟩ := JobAt.ext (Ext.below HB.out) (hc' k hlt)
      unfold IntAt at y0 y1 y2 y3 y4 y5 y6 z0 z1 z2 z3 z4 z5 z6
      clear hc hc'
      go_wp2_with fail
      go_quiet (fail)
      go_wp2_with fail
      go_roundw
      case rel => exact ⟨k + 1, by omega, by go_num, below_drewN HB.out _⟩
      case measure => simp [intOf]; omega
    · go_wp2_with fail
      go_ret
      exact ⟨rfl, HB.out⟩
theorem flat_set (xs : List Job) (k : Nat) (h : k < xs.length) (t : Int) : (xs.flatMap jobCells).set (k * 7) (.int .i64 t) = (xs.set k { xs[k] with task := t }).flatMap jobCells := by
  induction xs generalizing k with
  | nil => simp at h
  | cons x r ih =>
    cases k with
    | zero => simp [jobCells]
    | succ k =>
      have h' : k < r.length := by simpa using h
      rw [List.flatMap_cons, List.set_append_right _ _ (by rw [flatJob.len, Nat.succ_mul]; omega), flatJob.len, Nat.succ_mul, show k * 7 + 7 - 7 = k * 7 by omega, ih k h']
      simp
end Go.Proofs.Ytpjmceiegogobaa
