/- What the functions under config.Check answer: windows. -/
import Derived.Test.YtkjjfidbmkpljaaChk1
set_option linter.unusedVariables false
set_option linter.unusedSimpArgs false
namespace Go.Proofs.Ytkjjfidbmkpljaa
open Go.RowKit

theorem winsFrom_step (f n e : Int) (ws : List Window) (k : Nat) (h : k < ws.length) :
    winsFrom f n e (ws.drop k) = (decide (e ≤ ws[k].from_ ∧ ws[k].from_ < ws[k].to_ ∧ ws[k].to_ ≤ f ∧ 0 ≤ ws[k].part ∧ ws[k].part < n) && winsFrom f n ws[k].to_ (ws.drop (k + 1))) := by
  rw [List.drop_eq_getElem_cons h]
  rfl

set_option maxRecDepth 100000 in
set_option maxHeartbeats 400000 in
theorem windows_any (g : Nat) (c : Config) (w : World) (hc : CfgP w g c) : Calls Try.prog 50 #[.pointer (some ⟨g, 0, none⟩)] w fun e w' => e = .returned (.bool (windowsMay c)) ∧ Below w.heap.size w w' := by
  obtain ⟨pv, wv, ov, h0, h1, h2, h3, h4, h5⟩ := hc
  obtain ⟨pa, pcap, rfl, hp1, hp2, hp3, hp4⟩ := h5.parts
  obtain ⟨wa, wcap, rfl, hw1, hw2, hw3, hw4⟩ := h5.windows
  have HW := Lib.hid hw4
  have hg : g < w.heap.size := cell_lt h2
  have H0 := Lib.hid h0
  have H2 := Lib.hid h2
  have H3 := Lib.hid h3
  clear hw4 hp4 h5 h0 h1 h4 h2
  have hl1 : c.windows.length ≤ 1000000000000000 := by omega
  go_enter Try.func50, Try.ntmps50
  go_wp2_with fail
  clear h3
  go_loopw [3, 5, 11] (fun e _ i wr => ∃ (k : Nat) (ev : Int), k ≤ c.windows.length ∧ i = .int .i64 k ∧ e = .int .i64 ev ∧ Hid (winsFrom c.frame c.parts.length 0 c.windows = winsFrom c.frame c.parts.length ev (c.windows.drop k)) ∧ Below w.heap.size w wr) (fun _ _ i _ => c.windows.length - (intOf i).toNat)
  case atStart => exact ⟨0, 0, by omega, rfl, rfl, Lib.hid (by simp), Below.refl _ _⟩
  case round =>
    obtain ⟨k, ev, hk, rfl, rfl, HD, hB⟩ := hrel
    have HB := Lib.hid hB
    clear hB
    by_cases hlt : k < c.windows.length
    · obtain ⟨b, off, rfl, hcell⟩ := HW.out (by intro h; rw [h] at hlt; simp at hlt)
      obtain ⟨x0, x1, x2⟩ := hcell k hlt
      have E := Ext.below HB.out
      have y0 := E _ _ x0
      have y1 := E _ _ x1
      have y2 := E _ _ x2
      have z0 := E _ _ H0.out
      have z2 := E _ _ H2.out
      have z3 := E _ _ H3.out
      have hgr : g < wr.heap.size := cell_lt z2
      have hbr : b < wr.heap.size := cell_lt y0
      clear x0 x1 x2 hcell E
      have hstep := winsFrom_step c.frame c.parts.length ev c.windows k hlt
      rw [← HD.out] at hstep
      have HS := Lib.hid hstep
      clear hstep HD
      go_wp2_with fail
      refine wp_region_quiet_lit (by kernel_rfl) (by kernel_rfl) ?_
      repeat (any_goals (first | go_big_quiet_step (fail) | quiet_step (fail) | (refine wpQuiet_step (fun K hK => ?_); go_simp; split <;> (refine hK _ ?_; clear hK K))))
      all_goals (refine wpQuiet_nil ?_; intro _ hw'; obtain ⟨nq, hw''⟩ := hw'; subst hw'')
      all_goals go_wp2_with fail
      all_goals first
        | (go_ret
           exact ⟨ret_bool (by unfold windowsMay; rw [HS.out]; simp; omega), bthen HB.out (below_drewN (balloc _ _) _)⟩)
        | (go_roundw
           case rel => exact ⟨k + 1, _, by omega, by go_num, rfl, Lib.hid (by rw [HS.out, decide_eq_true (by omega)]; simp), bthen HB.out (below_drewN (balloc _ _) _)⟩
           case measure => simp [intOf]; omega)
    · have z3 := Ext.below HB.out _ _ H3.out
      have hfin : winsFrom c.frame c.parts.length 0 c.windows = true := by
        rw [HD.out, List.drop_of_length_le (by omega)]; rfl
      have HF := Lib.hid hfin
      clear hfin HD
      go_wp2_with fail
      go_ret
      exact ⟨ret_bool (by unfold windowsMay; rw [HF.out, Bool.true_and]; (rw [Bool.eq_iff_iff]; (try simp only [beq_iff_eq, beq_eq_false_iff_ne, ne_eq] at *); (try simp); (try omega))), HB.out⟩
end Go.Proofs.Ytkjjfidbmkpljaa
