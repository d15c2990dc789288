/- What the reference answers of parts, windows and ports. -/
import Derived.Test.YthnecccakeminaaRef1
import Derived.Test.YthnecccakeminaaChk2
import Derived.Test.YthnecccakeminaaChk7
set_option linter.unusedVariables false
set_option linter.unusedSimpArgs false
namespace Go.Proofs.Ythnecccakeminaa
open Go.RowKit

set_option maxRecDepth 100000 in
set_option maxHeartbeats 800000 in
theorem refPartTasks_any (x : Part) (tv cv : Value) (w : World) (hx : PartIs w tv cv x) :
    Calls Try.prog 47 #[.agg #[.int .i64 x.level, tv, cv]] w fun e w' => e = .returned (.bool (tasksMay x)) ∧ Below w.heap.size w w' := by
  have HX := Lib.hid hx
  obtain ⟨a, c, rfl, hv1, hv2, hv3, hv4⟩ := hx.tasks
  have HV := Lib.hid hv4
  clear hv4
  have hl1 : x.tasks.length ≤ 1000000000000000 := by omega
  have HBX := Lib.hid (balloc w (.cells #[.int .i64 x.level, .slice a x.tasks.length c, cv] 42))
  have b0 : (w.alloc (.cells #[.int .i64 x.level, .slice a x.tasks.length c, cv] 42)).cell? ⟨w.heap.size, 0, none⟩ = some (.int .i64 x.level) := box_at 0 rfl
  have b1 : (w.alloc (.cells #[.int .i64 x.level, .slice a x.tasks.length c, cv] 42)).cell? ⟨w.heap.size, 1, none⟩ = some (.slice a x.tasks.length c) := box_at 1 rfl
  obtain ⟨wb, hwb⟩ : ∃ wb, wb = w.alloc (.cells #[.int .i64 x.level, .slice a x.tasks.length c, cv] 42) := ⟨_, rfl⟩
  obtain ⟨g, hg⟩ : ∃ g, g = w.heap.size := ⟨_, rfl⟩
  rw [← hwb, ← hg] at b0 b1
  rw [← hwb] at HBX
  have B0 := Lib.hid b0
  have B1 := Lib.hid b1
  clear b0 b1
  go_enter Try.func47, Try.ntmps47
  go_wp2_with fail
  rw [← hwb, ← hg]
  clear hwb hg
  go_loopw [3] (fun i wr => ∃ (k : Nat), k ≤ x.tasks.length ∧ i = .int .i64 k ∧ Hid (x.tasks.all (lvlOk x.level) = (x.tasks.drop k).all (lvlOk x.level)) ∧ Below wb.heap.size wb wr) (fun i _ => x.tasks.length - (intOf i).toNat)
  case atStart => exact ⟨0, by omega, rfl, Lib.hid (by simp), Below.refl _ _⟩
  case round =>
    obtain ⟨k, hk, rfl, HD, hB⟩ := hrel
    have HB := Lib.hid hB
    have z0 := Ext.below hB _ _ B0.out
    have z1 := Ext.below hB _ _ B1.out
    clear hB
    by_cases hlt : k < x.tasks.length
    · obtain ⟨b, off, rfl, hcell⟩ := HV.out (by intro h; rw [h] at hlt; simp at hlt)
      obtain ⟨y0, y1, y2, y3, y4, y5⟩ := TaskAt.ext (Ext.below (bthen HBX.out HB.out)) (hcell k hlt)
      unfold IntAt at y3 y4
      clear hcell y0 y1 y2 y5
      have hstep := all_step (lvlOk x.level) x.tasks k hlt
      rw [← HD.out] at hstep
      have HS := Lib.hid hstep
      clear hstep HD
      by_cases hl0 : x.level = 0
      · have e1 : (x.level == 0) = true := by simp [hl0]
        have HL := Lib.hid hl0
        clear hl0
        by_cases hc : x.tasks[k].chigh = x.tasks[k].clow
        · have e2 : (x.tasks[k].chigh != x.tasks[k].clow) = false := by simp [hc]
          have HCC := Lib.hid hc
          clear hc
          go_wp2_with fail
          go_quiet (fail)
          go_wp2_with fail
          go_roundw
          case rel => exact ⟨k + 1, by omega, by go_num, Lib.hid (by rw [HS.out]; unfold lvlOk; simp [HCC.out]), below_drewN HB.out _⟩
          case measure => simp [intOf]; omega
        · have e2 : (x.tasks[k].chigh != x.tasks[k].clow) = true := by simp [hc]
          have HCC := Lib.hid hc
          clear hc
          go_wp2_with fail
          go_quiet (fail)
          go_wp2_with fail
          go_ret
          exact ⟨ret_bool (by rw [tasksMay_eq, HS.out]; unfold lvlOk; simp [HCC.out, HL.out]), bthen HBX.out (below_drewN HB.out _)⟩
      · have e1 : (x.level == 0) = false := by simp [hl0]
        have HL := Lib.hid hl0
        clear hl0
        go_wp2_with fail
        go_quiet (fail)
        go_wp2_with fail
        go_roundw
        case rel => exact ⟨k + 1, by omega, by go_num, Lib.hid (by rw [HS.out]; unfold lvlOk; simp [HL.out]), below_drewN HB.out _⟩
        case measure => simp [intOf]; omega
    · have hfin : x.tasks.all (lvlOk x.level) = true := by
        rw [HD.out, List.drop_of_length_le (by omega)]; rfl
      have HF := Lib.hid hfin
      clear hfin HD
      by_cases h6 : x.tasks.length ≤ 6
      · go_wp2_with fail
        refine (refTasksMay_any _ x.tasks _ (HX.out.tasks.ext (Ext.below (bthen HBX.out HB.out)))).mono ?_
        rintro e w1 ⟨rfl, hb1⟩
        go_wp2_with fail
        go_ret
        exact ⟨ret_bool (by rw [tasksMay_eq, HF.out, decide_eq_true h6, Bool.true_and, Bool.true_and]), bthen HBX.out (bthen HB.out hb1)⟩
      · go_wp2_with fail
        go_ret
        exact ⟨ret_bool (by rw [tasksMay_eq, HF.out, decide_eq_false h6]; simp), bthen HBX.out HB.out⟩

/-- The end of the window ahead of k. -/
def prevTo (ws : List Window) (k : Nat) : Int := if k = 0 then 0 else (ws.getD (k - 1) ⟨0, 0, 0⟩).to_

set_option maxRecDepth 100000 in
set_option maxHeartbeats 1600000 in
theorem refWindows_any (c : Config) (v : Value) (w : World) (hc : CfgV w v c) :
    Calls Try.prog 49 #[v] w fun e w' => e = .returned (.bool (windowsMay c)) ∧ Below w.heap.size w w' := by
  obtain ⟨pv, wv, ov, rfl, hcfg⟩ := hc
  have HBX := Lib.hid (balloc w (.cells #[.int .i64 c.frame, .int .i64 c.quiet, pv, wv, ov] 26))
  have hcc := cfg_box w c _ _ _ 26 hcfg
  obtain ⟨wb, hwb⟩ : ∃ wb, wb = w.alloc (.cells #[.int .i64 c.frame, .int .i64 c.quiet, pv, wv, ov] 26) := ⟨_, rfl⟩
  obtain ⟨g, hg⟩ : ∃ g, g = w.heap.size := ⟨_, rfl⟩
  rw [← hwb, ← hg] at hcc
  rw [← hwb] at HBX
  obtain ⟨pa, pcap, rfl, hp1, hp2, hp3, hp4⟩ := hcc.is.parts
  obtain ⟨wa, wcap, rfl, hw1, hw2, hw3, hw4⟩ := hcc.is.windows
  have HW := Lib.hid hw4
  have HC := Lib.hid hcc
  clear hw4 hp4 hcc hcfg
  have hl1 : c.windows.length ≤ 1000000000000000 := by omega
  go_enter Try.func49, Try.ntmps49
  go_wp2_with fail
  rw [← hwb, ← hg]
  clear hwb hg
  go_loopw [3, 4] (fun i _ wr => ∃ (k : Nat), k ≤ c.windows.length ∧ i = .int .i64 k ∧ 0 ≤ prevTo c.windows k ∧ Hid (winsFrom c.frame c.parts.length 0 c.windows = winsFrom c.frame c.parts.length (prevTo c.windows k) (c.windows.drop k)) ∧ Below wb.heap.size wb wr) (fun i _ _ => c.windows.length - (intOf i).toNat)
  case atStart => exact ⟨0, by omega, rfl, by simp [prevTo], Lib.hid (by simp [prevTo]), Below.refl _ _⟩
  case round =>
    obtain ⟨k, hk, rfl, hpt, HD, hB⟩ := hrel
    have HB := Lib.hid hB
    have hcr := HC.out.ext (Ext.below hB)
    have z0 := hcr.c0
    have z2 := hcr.c2
    have z3 := hcr.c3
    unfold IntAt at z0
    clear hB hcr
    by_cases hlt : k < c.windows.length
    · obtain ⟨b, off, rfl, hcell⟩ := HW.out (by intro h; rw [h] at hlt; simp at hlt)
      have HCL := Lib.hid hcell
      obtain ⟨y0, y1, y2⟩ := WindowAt.ext (Ext.below HB.out) (hcell k hlt)
      unfold IntAt at y0 y1 y2
      clear hcell
      have hgr : g < wr.heap.size := cell_lt z2
      have hbr : b < wr.heap.size := cell_lt y0
      have hstep := winsFrom_step c.frame c.parts.length (prevTo c.windows k) c.windows k hlt
      rw [← HD.out] at hstep
      have HS := Lib.hid hstep
      have hpn : prevTo c.windows (k + 1) = c.windows[k].to_ := by simp [prevTo, List.getD, hlt]
      have HPN := Lib.hid hpn
      clear hstep HD hpn
      rcases Nat.eq_zero_or_pos k with hk0 | hk0
      · subst hk0
        have hp0 : prevTo c.windows 0 = 0 := rfl
        simp only [Nat.zero_mul, Nat.add_zero, Nat.zero_add] at y0 y1 y2
        have HP0 := Lib.hid hp0
        clear hp0
        go_wp2_with fail
        refine wp_region_quiet_lit (by kernel_rfl) (by kernel_rfl) ?_
        repeat (any_goals (first | go_big_quiet_step (fail) | quiet_step (fail) | (refine wpQuiet_step (fun K hK => ?_); go_simp; split <;> (refine hK _ ?_; clear hK K))))
        all_goals (refine wpQuiet_nil ?_; intro _ hw'; obtain ⟨nq, hw''⟩ := hw'; subst hw'')
        all_goals go_wp2_with fail
        all_goals first
          | (go_ret
             exact ⟨ret_bool (by unfold windowsMay; rw [HS.out, HP0.out]; simp; omega), bthen HBX.out (bthen HB.out (below_drewN (balloc _ _) _))⟩)
          | (go_roundw
             case rel => exact ⟨1, by omega, by go_num, by rw [HPN.out]; omega, Lib.hid (by rw [HS.out, HP0.out, decide_eq_true (by omega), HPN.out]; simp), bthen HB.out (below_drewN (balloc _ _) _)⟩
             case measure => simp [intOf]; omega)
      · obtain ⟨m, rfl⟩ : ∃ m, k = m + 1 := ⟨k - 1, by omega⟩
        have q1 := (WindowAt.ext (Ext.below HB.out) (HCL.out m (by omega))).2.1
        have hmx : m < c.windows.length := by omega
        have hp0 : prevTo c.windows (m + 1) = c.windows[m].to_ := by simp [prevTo, List.getD, hmx]
        have HP0 := Lib.hid hp0
        rw [hp0] at hpt
        clear hp0
        unfold IntAt at q1
        have e9 : IntKind.i64.wrap ((((m + 1 : Nat)) : Int) - 1) = (m : Int) := by rw [IntKind.wrap_i64]; omega
        go_wp2_with fail
        refine wp_region_quiet_lit (by kernel_rfl) (by kernel_rfl) ?_
        repeat (any_goals (first | go_big_quiet_step (fail) | quiet_step (fail) | (refine wpQuiet_step (fun K hK => ?_); go_simp; split <;> (refine hK _ ?_; clear hK K))))
        all_goals (refine wpQuiet_nil ?_; intro _ hw'; obtain ⟨nq, hw''⟩ := hw'; subst hw'')
        all_goals go_wp2_with fail
        all_goals first
          | (go_ret
             exact ⟨ret_bool (by unfold windowsMay; rw [HS.out, HP0.out]; simp; omega), bthen HBX.out (bthen HB.out (below_drewN (balloc _ _) _))⟩)
          | (go_roundw
             case rel => exact ⟨m + 1 + 1, by omega, by go_num, by rw [HPN.out]; omega, Lib.hid (by rw [HS.out, HP0.out, decide_eq_true (by omega), HPN.out]; simp), bthen HB.out (below_drewN (balloc _ _) _)⟩
             case measure => simp [intOf]; omega)
    · have hfin : winsFrom c.frame c.parts.length 0 c.windows = true := by
        rw [HD.out, List.drop_of_length_le (by omega)]; rfl
      have HF := Lib.hid hfin
      clear hfin HD
      go_wp2_with fail
      go_ret
      exact ⟨ret_bool (by unfold windowsMay; rw [HF.out, Bool.true_and]; (rw [Bool.eq_iff_iff]; (try simp only [beq_iff_eq, beq_eq_false_iff_ne, ne_eq] at *); (try simp); (try omega))), bthen HBX.out HB.out⟩

def levelOf (ps : List Part) (p : Int) : Int := if p < 0 ∨ p ≥ ps.length then -1 else (ps.getD p.toNat ⟨0, [], []⟩).level
set_option maxRecDepth 100000 in
set_option maxHeartbeats 400000 in
theorem refLevel_any (c : Config) (v : Value) (p : Int) (w : World) (hc : CfgV w v c) :
    Calls Try.prog 26 #[v, .int .i64 p] w fun e w' => e = .returned (.int .i64 (levelOf c.parts p)) ∧ Below w.heap.size w w' := by
  obtain ⟨pv, wv, ov, rfl, hcfg⟩ := hc
  obtain ⟨pa, pcap, rfl, hp1, hp2, hp3, hp4⟩ := hcfg.parts
  by_cases h : p < 0 ∨ p ≥ c.parts.length
  · have HL : Hid (levelOf c.parts p = -1) := Lib.hid (by unfold levelOf; rw [if_pos h])
    have HH := Lib.hid h
    clear h hcfg hp4
    go_enter Try.func26, Try.ntmps26
    go_wp2_with fail
    all_goals first
      | (go_ret; exact ⟨ret_int HL.out.symm, balloc _ _⟩)
      | (exfalso; have := HH.out; omega)
  · obtain ⟨n, rfl⟩ := Int.eq_ofNat_of_zero_le (show 0 ≤ p by omega)
    have hlt : n < c.parts.length := by omega
    obtain ⟨b, off, rfl, hcell⟩ := hp4 (by intro h; rw [h] at hlt; simp at hlt)
    obtain ⟨y0, -⟩ := hcell n hlt
    have HL : Hid (levelOf c.parts n = c.parts[n].level) := Lib.hid (by unfold levelOf; rw [if_neg h]; simp [hlt])
    have hbw : b < w.heap.size := cell_lt y0
    unfold IntAt at y0
    clear h hcfg hcell
    go_enter Try.func26, Try.ntmps26
    go_wp2_with fail
    go_ret
    exact ⟨ret_int HL.out.symm, balloc _ _⟩
theorem levelOf_is (ps : List Part) (p l : Int) (hl : 0 ≤ l) : (levelOf ps p == l) = isPart ps p l := by
  by_cases h : 0 ≤ p ∧ p < ps.length
  · obtain ⟨n, rfl⟩ := Int.eq_ofNat_of_zero_le h.1
    have hlt : n < ps.length := by omega
    rw [isPart_in _ _ _ hlt]
    unfold levelOf
    rw [if_neg (by omega)]
    simp only [Int.toNat_natCast, List.getD_eq_getElem?_getD, List.getElem?_eq_getElem hlt, Option.getD_some]
    rw [Bool.eq_iff_iff]; simp
  · rw [isPart_out _ _ _ h]
    unfold levelOf
    rw [if_pos (by omega)]
    simp; omega

end Go.Proofs.Ythnecccakeminaa
