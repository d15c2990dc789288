/- Slices, parts and configurations that read the same: the comparisons of the statements say so. -/
import Derived.Test.YthnecccakeminaaChk7
import Derived.Test.YthnecccakeminaaRow
import Derived.Test.YthnecccakeminaaTail
set_option linter.unusedVariables false
set_option linter.unusedSimpArgs false
namespace Go.Proofs.Ythnecccakeminaa
open Go.RowKit

set_option maxRecDepth 100000 in
set_option maxHeartbeats 400000 in
theorem sameTasks_any (v v' : Value) (xs : List Task) (w : World) (hv : TasksV w v xs) (hv' : TasksV w v' xs) :
    Calls Try.prog 51 #[v, v'] w fun e w' => e = .returned (.bool true) ∧ Below w.heap.size w w' := by
  obtain ⟨a, cap, rfl, h2, h3, h4, h5⟩ := hv
  obtain ⟨a', cap', rfl, -, h3', h4', h5'⟩ := hv'
  have H := Lib.hid h5
  have H' := Lib.hid h5'
  have hl : xs.length ≤ 1000000000000000 := by omega
  clear h5 h5'
  go_enter Try.func51, Try.ntmps51
  go_wp2_with fail
  go_loopw [5] (fun i wr => ∃ k : Nat, k ≤ xs.length ∧ i = .int .i64 k ∧ Below w.heap.size w wr) (fun i _ => xs.length - (intOf i).toNat)
  case atStart => exact ⟨0, by omega, rfl, Below.refl _ _⟩
  case round =>
    obtain ⟨k, hk, rfl, hB⟩ := hrel
    have HB := Lib.hid hB
    clear hB
    by_cases hlt : k < xs.length
    · obtain ⟨b, off, rfl, hc⟩ := H.out (by intro h; rw [h] at hlt; simp at hlt)
      obtain ⟨b', off', rfl, hc'⟩ := H'.out (by intro h; rw [h] at hlt; simp at hlt)
      have q := TaskAt.ext (Ext.below HB.out) (hc k hlt)
      have q' := TaskAt.ext (Ext.below HB.out) (hc' k hlt)
      obtain ⟨y0, y1, y2, y3, y4, y5⟩ := q
      obtain ⟨q0, q1, q2, q3, q4, q5⟩ := q'
      unfold IntAt at *
      clear hc hc'
      go_wp2_with fail
      go_quiet (fail)
      go_wp2_with fail
      go_roundw
      case rel => exact ⟨k + 1, by omega, by go_num, below_drewN HB.out _⟩
      case measure => simp [intOf]; omega
    · go_wp2_with fail
      go_ret
      exact ⟨rfl, HB.out⟩
set_option maxRecDepth 100000 in
set_option maxHeartbeats 400000 in
theorem sameInstrs_any (v v' : Value) (xs : List Instr) (w : World) (hv : CodeV w v xs) (hv' : CodeV w v' xs) :
    Calls Try.prog 52 #[v, v'] w fun e w' => e = .returned (.bool true) ∧ Below w.heap.size w w' := by
  obtain ⟨a, cap, rfl, h2, h3, h4, h5⟩ := hv
  obtain ⟨a', cap', rfl, -, h3', h4', h5'⟩ := hv'
  have H := Lib.hid h5
  have H' := Lib.hid h5'
  have hl : xs.length ≤ 1000000000000000 := by omega
  clear h5 h5'
  go_enter Try.func52, Try.ntmps52
  go_wp2_with fail
  go_loopw [5] (fun i wr => ∃ k : Nat, k ≤ xs.length ∧ i = .int .i64 k ∧ Below w.heap.size w wr) (fun i _ => xs.length - (intOf i).toNat)
  case atStart => exact ⟨0, by omega, rfl, Below.refl _ _⟩
  case round =>
    obtain ⟨k, hk, rfl, hB⟩ := hrel
    have HB := Lib.hid hB
    clear hB
    by_cases hlt : k < xs.length
    · obtain ⟨b, off, rfl, hc⟩ := H.out (by intro h; rw [h] at hlt; simp at hlt)
      obtain ⟨b', off', rfl, hc'⟩ := H'.out (by intro h; rw [h] at hlt; simp at hlt)
      have q := InstrAt.ext (Ext.below HB.out) (hc k hlt)
      have q' := InstrAt.ext (Ext.below HB.out) (hc' k hlt)
      obtain ⟨y0, y1⟩ := q
      obtain ⟨q0, q1⟩ := q'
      unfold IntAt at *
      clear hc hc'
      go_wp2_with fail
      go_quiet (fail)
      go_wp2_with fail
      go_roundw
      case rel => exact ⟨k + 1, by omega, by go_num, below_drewN HB.out _⟩
      case measure => simp [intOf]; omega
    · go_wp2_with fail
      go_ret
      exact ⟨rfl, HB.out⟩
set_option maxRecDepth 100000 in
set_option maxHeartbeats 400000 in
theorem samePart_any (x : Part) (tv cv tv' cv' : Value) (w : World) (hx : PartIs w tv cv x) (hx' : PartIs w tv' cv' x) :
    Calls Try.prog 30 #[.agg #[.int .i64 x.level, tv, cv], .agg #[.int .i64 x.level, tv', cv']] w fun e w' => e = .returned (.bool true) ∧ Below w.heap.size w w' := by
  have HX := Lib.hid (And.intro hx hx')
  have HB0 := Lib.hid (bthen (balloc w (.cells #[.int .i64 x.level, tv, cv] 42)) (balloc _ (.cells #[.int .i64 x.level, tv', cv'] 42)))
  clear hx hx'
  go_enter Try.func30, Try.ntmps30
  go_wp2_with fail
  refine (sameTasks_any _ _ x.tasks _ (HX.out.1.tasks.ext (Ext.below HB0.out)) (HX.out.2.tasks.ext (Ext.below HB0.out))).mono ?_
  rintro e w1 ⟨rfl, hb1⟩
  have HB1 := Lib.hid (bthen HB0.out hb1)
  obtain ⟨c1, f1⟩ := bcell hb1
  clear hb1
  go_wp2_with fail
  refine (sameInstrs_any _ _ x.code _ (HX.out.1.code.ext (Ext.below HB1.out)) (HX.out.2.code.ext (Ext.below HB1.out))).mono ?_
  rintro e w2 ⟨rfl, hb2⟩
  have HB2 := Lib.hid (bthen HB1.out hb2)
  clear hb2 c1 f1
  go_wp2_with fail
  go_ret
  exact ⟨rfl, HB2.out⟩
set_option maxRecDepth 100000 in
set_option maxHeartbeats 1600000 in
theorem sameConfig_any (c : Config) (v v' : Value) (w : World) (hc : CfgV w v c) (hc' : CfgV w v' c) :
    Calls Try.prog 15 #[v, v'] w fun e w' => e = .returned (.bool true) ∧ Below w.heap.size w w' := by
  obtain ⟨pv, wv, ov, rfl, h1⟩ := hc
  obtain ⟨pv', wv', ov', rfl, h2⟩ := hc'
  have hb0 := bthen (balloc w (.cells #[.int .i64 c.frame, .int .i64 c.quiet, pv, wv, ov] 26)) (balloc _ (.cells #[.int .i64 c.frame, .int .i64 c.quiet, pv', wv', ov'] 26))
  have k1 := (cfg_box w c _ _ _ 26 h1).ext (Ext.alloc _ (.cells #[.int .i64 c.frame, .int .i64 c.quiet, pv', wv', ov'] 26))
  have k2 := cfg_box (w.alloc (.cells #[.int .i64 c.frame, .int .i64 c.quiet, pv, wv, ov] 26)) c _ _ _ 26 (h2.ext (Ext.alloc _ _))
  obtain ⟨pa, pk, rfl, p2, p3, p4, p5⟩ := h1.parts
  obtain ⟨pa', pk', rfl, -, p3', p4', p5'⟩ := h2.parts
  obtain ⟨wa, wk, rfl, w2, w3, w4, w5⟩ := h1.windows
  obtain ⟨wa', wk', rfl, -, w3', w4', w5'⟩ := h2.windows
  obtain ⟨oa, ok, rfl, o2, o3, o4, o5⟩ := h1.ports
  obtain ⟨oa', ok', rfl, -, o3', o4', o5'⟩ := h2.ports
  obtain ⟨wb, hwb⟩ : ∃ wb, wb = (w.alloc (.cells #[.int .i64 c.frame, .int .i64 c.quiet, .slice pa c.parts.length pk, .slice wa c.windows.length wk, .slice oa c.ports.length ok] 26)).alloc (.cells #[.int .i64 c.frame, .int .i64 c.quiet, .slice pa' c.parts.length pk', .slice wa' c.windows.length wk', .slice oa' c.ports.length ok'] 26) := ⟨_, rfl⟩
  rw [← hwb] at hb0 k1 k2
  have hs1 : (w.alloc (.cells #[.int .i64 c.frame, .int .i64 c.quiet, .slice pa c.parts.length pk, .slice wa c.windows.length wk, .slice oa c.ports.length ok] 26)).heap.size = w.heap.size + 1 := by simp
  rw [hs1] at k2
  obtain ⟨g, hg⟩ : ∃ g, g = w.heap.size := ⟨_, rfl⟩
  obtain ⟨g', hg'⟩ : ∃ g', g' = w.heap.size + 1 := ⟨_, rfl⟩
  rw [← hg] at k1
  rw [← hg'] at k2
  have HB0 := Lib.hid hb0
  have K1 := Lib.hid k1
  have K2 := Lib.hid k2
  have HP := Lib.hid (And.intro p5 p5')
  have HW := Lib.hid (And.intro w5 w5')
  have HO := Lib.hid (And.intro o5 o5')
  have lp : c.parts.length ≤ 1000000000000000 := by omega
  have lw : c.windows.length ≤ 1000000000000000 := by omega
  have lo : c.ports.length ≤ 1000000000000000 := by omega
  clear p5 p5' w5 w5' o5 o5' hb0 k1 k2 h1 h2 hs1
  go_enter Try.func15, Try.ntmps15
  go_wp2_with fail
  rw [← hg', ← hwb, ← hg]
  have HWB := Lib.hid hwb
  clear hwb hg hg'
  go_loopw [5] (fun i wr => ∃ k : Nat, k ≤ c.parts.length ∧ i = .int .i64 k ∧ Below wb.heap.size wb wr) (fun i _ => c.parts.length - (intOf i).toNat)
  case atStart => exact ⟨0, by omega, rfl, Below.refl _ _⟩
  case round =>
    obtain ⟨k, hk, rfl, hB⟩ := hrel
    have HB := Lib.hid hB
    have q2 := (K1.out.ext (Ext.below hB)).c2
    have q2' := (K2.out.ext (Ext.below hB)).c2
    clear hB
    by_cases hlt : k < c.parts.length
    · obtain ⟨b, off, rfl, hc⟩ := HP.out.1 (by intro h; rw [h] at hlt; simp at hlt)
      obtain ⟨b', off', rfl, hc'⟩ := HP.out.2 (by intro h; rw [h] at hlt; simp at hlt)
      have hE := (Ext.below HB0.out).trans (Ext.below HB.out)
      obtain ⟨y0, tv, cv, y1, y2, hx⟩ := PartAt.ext hE (hc k hlt)
      obtain ⟨z0, tv', cv', z1, z2, hx'⟩ := PartAt.ext hE (hc' k hlt)
      unfold IntAt at y0 z0
      have HX := Lib.hid (And.intro hx hx')
      clear hc hc' hx hx' hE
      go_wp2_with fail
      refine region_tail 10 (by kernel_rfl) (by kernel_rfl) ?_
      intro wy hy hby
      have hE : Ext wr wy := fun a v h => by rw [cell_of_heap hy]; exact h
      have q2 := hE _ _ q2
      have q2' := hE _ _ q2'
      have y0 := hE _ _ y0
      have y1 := hE _ _ y1
      have y2 := hE _ _ y2
      have z0 := hE _ _ z0
      have z1 := hE _ _ z1
      have z2 := hE _ _ z2
      have HE := Lib.hid (And.intro hE hby)
      clear hE hy hby
      simp only [List.take_succ_cons, List.take_zero, List.drop_succ_cons, List.drop_zero]
      repeat still_step
      refine wpStill_nil ?_
      go_wp2_with fail
      refine (samePart_any c.parts[k] _ _ _ _ _ ?_ ?_).mono ?_
      · exact HX.out.1.ext HE.out.1
      · exact HX.out.2.ext HE.out.1
      rintro e w1 ⟨rfl, hb1⟩
      have HB1 := Lib.hid (bthen HB.out (bthen HE.out.2 hb1))
      clear hb1 q2 q2' y0 y1 y2 z0 z1 z2
      go_wp2_with fail
      go_roundw
      case rel => exact ⟨k + 1, by omega, by go_num, HB1.out⟩
      case measure => simp [intOf]; omega
    · go_wp2_with fail
      clear q2 q2'
      obtain ⟨wp, rfl⟩ : ∃ wp : World, wp = wr := ⟨_, rfl⟩
      go_loopw [6] (fun i wr => ∃ k : Nat, k ≤ c.windows.length ∧ i = .int .i64 k ∧ Below wb.heap.size wb wr) (fun i _ => c.windows.length - (intOf i).toNat)
      case atStart => exact ⟨0, by omega, rfl, HB.out⟩
      case round =>
        obtain ⟨m, hm, rfl, hB⟩ := hrel
        have HBm := Lib.hid hB
        have q3 := (K1.out.ext (Ext.below hB)).c3
        have q3' := (K2.out.ext (Ext.below hB)).c3
        clear hB
        by_cases hml : m < c.windows.length
        · obtain ⟨b, off, rfl, hc⟩ := HW.out.1 (by intro h; rw [h] at hml; simp at hml)
          obtain ⟨b', off', rfl, hc'⟩ := HW.out.2 (by intro h; rw [h] at hml; simp at hml)
          have hE := (Ext.below HB0.out).trans (Ext.below HBm.out)
          obtain ⟨y0, y1, y2⟩ := WindowAt.ext hE (hc m hml)
          obtain ⟨z0, z1, z2⟩ := WindowAt.ext hE (hc' m hml)
          unfold IntAt at y0 y1 y2 z0 z1 z2
          clear hc hc' hE
          go_wp2_with fail
          go_quiet (fail)
          go_wp2_with fail
          go_roundw
          case rel => exact ⟨m + 1, by omega, by go_num, below_drewN HBm.out _⟩
          case measure => simp [intOf]; omega
        · go_wp2_with fail
          clear q3 q3'
          obtain ⟨wq, rfl⟩ : ∃ wq : World, wq = wr := ⟨_, rfl⟩
          go_loopw [7] (fun i wr => ∃ k : Nat, k ≤ c.ports.length ∧ i = .int .i64 k ∧ Below wb.heap.size wb wr) (fun i _ => c.ports.length - (intOf i).toNat)
          case atStart => exact ⟨0, by omega, rfl, HBm.out⟩
          case round =>
            obtain ⟨j, hj, rfl, hB⟩ := hrel
            have HBj := Lib.hid hB
            have q4 := (K1.out.ext (Ext.below hB)).c4
            have q4' := (K2.out.ext (Ext.below hB)).c4
            clear hB
            by_cases hjl : j < c.ports.length
            · obtain ⟨b, off, rfl, hc⟩ := HO.out.1 (by intro h; rw [h] at hjl; simp at hjl)
              obtain ⟨b', off', rfl, hc'⟩ := HO.out.2 (by intro h; rw [h] at hjl; simp at hjl)
              have hE := (Ext.below HB0.out).trans (Ext.below HBj.out)
              obtain ⟨y0, y1, y2, y3⟩ := PortAt.ext hE (hc j hjl)
              obtain ⟨z0, z1, z2, z3⟩ := PortAt.ext hE (hc' j hjl)
              unfold IntAt at y0 y1 y2 y3 z0 z1 z2 z3
              clear hc hc' hE
              go_wp2_with fail
              go_quiet (fail)
              go_wp2_with fail
              go_roundw
              case rel => exact ⟨j + 1, by omega, by go_num, below_drewN HBj.out _⟩
              case measure => simp [intOf]; omega
            · go_wp2_with fail
              go_ret
              exact ⟨rfl, bthen HB0.out HBj.out⟩
end Go.Proofs.Ythnecccakeminaa
