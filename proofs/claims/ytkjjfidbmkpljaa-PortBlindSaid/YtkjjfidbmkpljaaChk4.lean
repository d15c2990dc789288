/- What the functions under config.Check answer: programs, ports, tasks. -/
import Derived.Test.YtkjjfidbmkpljaaChk3
set_option linter.unusedVariables false
set_option linter.unusedSimpArgs false
namespace Go.Proofs.Ytkjjfidbmkpljaa
open Go.RowKit

theorem all_step {α : Type} (p : α → Bool) (xs : List α) (k : Nat) (h : k < xs.length) : (xs.drop k).all p = (p xs[k] && (xs.drop (k + 1)).all p) := by
  rw [List.drop_eq_getElem_cons h]
  rfl

set_option maxRecDepth 100000 in
set_option maxHeartbeats 400000 in
theorem codeMay_any (v : Value) (xs : List Instr) (w : World) (hv : CodeV w v xs) :
    Calls Try.prog 46 #[v] w fun e w' => e = .returned (.bool (codeMay xs)) ∧ Below w.heap.size w w' := by
  obtain ⟨a, c, rfl, hv1, hv2, hv3, hv4⟩ := hv
  have HV := Lib.hid hv4
  clear hv4
  have hl1 : xs.length ≤ 1000000000000000 := by omega
  by_cases h64 : 64 < xs.length
  · go_enter Try.func46, Try.ntmps46
    go_wp2_with fail
    go_ret
    exact ⟨ret_bool (by unfold codeMay; simp; omega), Below.refl _ _⟩
  · go_enter Try.func46, Try.ntmps46
    go_wp2_with fail
    go_loopw [4, 10] (fun _ i wr => ∃ (k : Nat), k ≤ xs.length ∧ i = .int .i64 k ∧ Hid (xs.all (instrMay xs.length) = (xs.drop k).all (instrMay xs.length)) ∧ Below w.heap.size w wr) (fun _ i _ => xs.length - (intOf i).toNat)
    case atStart => exact ⟨0, by omega, rfl, Lib.hid (by simp), Below.refl _ _⟩
    case round =>
      obtain ⟨k, hk, rfl, HD, hB⟩ := hrel
      have HB := Lib.hid hB
      clear hB
      by_cases hlt : k < xs.length
      · obtain ⟨b, off, rfl, hcell⟩ := HV.out (by intro h; rw [h] at hlt; simp at hlt)
        obtain ⟨y0, y1⟩ := InstrAt.ext (Ext.below HB.out) (hcell k hlt)
        unfold IntAt at y0 y1
        clear hcell
        have hstep := all_step (instrMay xs.length) xs k hlt
        rw [← HD.out] at hstep
        have HS := Lib.hid hstep
        clear hstep HD
        go_wp2_with fail
        refine wp_region_quiet_lit (by kernel_rfl) (by kernel_rfl) ?_
        repeat (any_goals (first | go_big_quiet_step ((go_at_call 62; exact Calls.quiet_of_same (below_any _ _ _))) | quiet_step ((go_at_call 62; exact Calls.quiet_of_same (below_any _ _ _))) | (refine wpQuiet_step (fun K hK => ?_); go_simp; split <;> (refine hK _ ?_; clear hK K))))
        all_goals (refine wpQuiet_nil ?_; intro _ hw'; obtain ⟨nq, hw''⟩ := hw'; subst hw'')
        all_goals go_wp2_with fail
        all_goals first
          | (go_ret
             exact ⟨ret_bool (by unfold codeMay; rw [HS.out]; simp [instrMay]; omega), bthen HB.out (below_drewN (balloc _ _) _)⟩)
          | (go_roundw
             case rel => exact ⟨k + 1, by omega, by go_num, Lib.hid (by rw [HS.out]; simp [instrMay]; omega), bthen HB.out (below_drewN (balloc _ _) _)⟩
             case measure => simp [intOf]; omega)
      · have hfin : xs.all (instrMay xs.length) = true := by
          rw [HD.out, List.drop_of_length_le (by omega)]; rfl
        have HF := Lib.hid hfin
        clear hfin HD
        go_wp2_with fail
        go_ret
        exact ⟨ret_bool (by unfold codeMay; rw [HF.out, Bool.and_true]; (rw [Bool.eq_iff_iff]; (try simp only [beq_iff_eq, beq_eq_false_iff_ne, ne_eq] at *); (try simp); (try omega))), HB.out⟩
end Go.Proofs.Ytkjjfidbmkpljaa
