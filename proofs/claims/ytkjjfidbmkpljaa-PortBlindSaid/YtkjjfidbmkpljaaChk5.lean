/- What the functions under config.Check answer: ports. -/
import Derived.Test.YtkjjfidbmkpljaaChk4
set_option linter.unusedVariables false
set_option linter.unusedSimpArgs false
namespace Go.Proofs.Ytkjjfidbmkpljaa
open Go.RowKit

theorem isPart_in (ps : List Part) (n : Nat) (l : Int) (h : n < ps.length) : isPart ps n l = decide (ps[n].level = l) := by
  unfold isPart
  rw [decide_eq_true (by omega), Bool.true_and]
  simp [h]
theorem isPart_out (ps : List Part) (p l : Int) (h : ¬ (0 ≤ p ∧ p < ps.length)) : isPart ps p l = false := by
  unfold isPart
  rw [decide_eq_false h, Bool.false_and]

set_option maxRecDepth 100000 in
set_option maxHeartbeats 400000 in
theorem is_any (g : Nat) (c : Config) (p l : Int) (w : World) (hc : CfgP w g c) :
    Calls Try.prog 63 #[.pointer (some ⟨g, 0, none⟩), .int .i64 p, .int .i64 l] w fun e w' => e = .returned (.bool (isPart c.parts p l)) ∧ w' = w := by
  obtain ⟨pv, wv, ov, h0, h1, h2, h3, h4, h5⟩ := hc
  obtain ⟨a, cap, rfl, hp1, hp2, hp3, hp4⟩ := h5.parts
  clear h0 h1 h3 h4 h5
  by_cases h : 0 ≤ p ∧ p < c.parts.length
  · obtain ⟨n, rfl⟩ := Int.eq_ofNat_of_zero_le h.1
    have hlt : n < c.parts.length := by omega
    obtain ⟨b, off, rfl, hcell⟩ := hp4 (by intro h; rw [h] at hlt; simp at hlt)
    obtain ⟨y0, -⟩ := hcell n hlt
    unfold IntAt at y0
    clear hcell
    have HI := Lib.hid (isPart_in c.parts n l hlt)
    go_enter Try.func63, Try.ntmps63
    go_wp2_with fail
    go_ret
    exact ⟨ret_bool (by rw [HI.out]; (rw [Bool.eq_iff_iff]; (try simp only [beq_iff_eq, beq_eq_false_iff_ne, ne_eq] at *); (try simp); (try omega))), rfl⟩
  · have HI := Lib.hid (isPart_out c.parts p l h)
    clear hp4
    by_cases h0 : 0 ≤ p
    · have h1 : (c.parts.length : Int) ≤ p := by omega
      go_enter Try.func63, Try.ntmps63
      go_wp2_with fail
      go_ret
      exact ⟨ret_bool HI.out.symm, rfl⟩
    · have h1 : p < 0 := by omega
      go_enter Try.func63, Try.ntmps63
      go_wp2_with fail
      go_ret
      exact ⟨ret_bool HI.out.symm, rfl⟩

set_option maxRecDepth 100000 in
set_option maxHeartbeats 400000 in
theorem port_any (g : Nat) (c : Config) (x : Port) (w : World) (hc : CfgP w g c) :
    Calls Try.prog 48 #[.pointer (some ⟨g, 0, none⟩), portV x] w fun e w' => e = .returned (.bool (portMay c.parts x)) ∧ Below w.heap.size w w' := by
  have HC := Lib.hid hc
  clear hc
  go_enter Try.func48, Try.ntmps48
  go_wp2_with (first | (go_at_call 63; refine (is_any g c _ _ _ (HC.out.ext (Ext.alloc _ _))).mono ?_; rintro e w' ⟨rfl, rfl⟩) | fail)
  all_goals
    go_ret
    exact ⟨ret_bool (by unfold portMay; (try simp only [beq_iff_eq, beq_eq_false_iff_ne, ne_eq] at *); simp [*] <;> omega), balloc _ _⟩
end Go.Proofs.Ytkjjfidbmkpljaa
