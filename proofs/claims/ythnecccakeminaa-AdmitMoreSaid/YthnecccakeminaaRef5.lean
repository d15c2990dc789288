/- What the reference answers of frames and supply. -/
import Derived.Test.YthnecccakeminaaRef4
import Derived.Test.YthnecccakeminaaFrm1
import Derived.Test.YthnecccakeminaaRow
import Derived.IntWalk
set_option linter.unusedVariables false
set_option linter.unusedSimpArgs false
namespace Go.Proofs.Ythnecccakeminaa
open Go.RowKit

set_option maxRecDepth 100000 in
set_option maxHeartbeats 800000 in
theorem refShare_any (c : Config) (v : Value) (p : Int) (w : World) (hc : CfgV w v c) (hk : checkCfg c = 0) :
    Calls Try.prog 29 #[v, .int .i64 p] w fun e w' => e = .returned (.int .i64 (shareOf p c.windows)) ∧ Below w.heap.size w w' := by
  obtain ⟨pv, wv, ov, rfl, hcfg⟩ := hc
  have HBX := Lib.hid (balloc w (.cells #[.int .i64 c.frame, .int .i64 c.quiet, pv, wv, ov] 26))
  have hcc := cfg_box w c _ _ _ 26 hcfg
  obtain ⟨wb, hwb⟩ : ∃ wb, wb = w.alloc (.cells #[.int .i64 c.frame, .int .i64 c.quiet, pv, wv, ov] 26) := ⟨_, rfl⟩
  obtain ⟨g, hg⟩ : ∃ g, g = w.heap.size := ⟨_, rfl⟩
  rw [← hwb, ← hg] at hcc
  rw [← hwb] at HBX
  obtain ⟨wa, wcap, rfl, hw1, hw2, hw3, hw4⟩ := hcc.is.windows
  have HW := Lib.hid hw4
  have HC := Lib.hid hcc
  have HO := Lib.hid (check_ok hk)
  clear hw4 hcc hcfg hk
  have hl1 : c.windows.length ≤ 32 := HO.out.2.2.2.2.2.2.1
  go_enter Try.func29, Try.ntmps29
  go_wp2_with fail
  rw [← hwb, ← hg]
  clear hwb hg
  go_loopw [5, 6] (fun o i wr => ∃ (k : Nat) (ov : Int), k ≤ c.windows.length ∧ i = .int .i64 k ∧ o = .int .i64 ov ∧ 0 ≤ ov ∧ ov ≤ 256 * k ∧ Hid (shareOf p c.windows = ov + shareOf p (c.windows.drop k)) ∧ Below wb.heap.size wb wr) (fun _ i _ => c.windows.length - (intOf i).toNat)
  case atStart => exact ⟨0, 0, by omega, rfl, rfl, by omega, by omega, Lib.hid (by simp), Below.refl _ _⟩
  case round =>
    obtain ⟨k, ov, hk, rfl, rfl, ho1, ho2, HD, hB⟩ := hrel
    have HB := Lib.hid hB
    have hcr := HC.out.ext (Ext.below hB)
    have z3 := hcr.c3
    clear hB hcr
    by_cases hlt : k < c.windows.length
    · obtain ⟨b, off, rfl, hcell⟩ := HW.out (by intro h; rw [h] at hlt; simp at hlt)
      obtain ⟨y0, y1, y2⟩ := WindowAt.ext (Ext.below HB.out) (hcell k hlt)
      unfold IntAt at y0 y1 y2
      clear hcell
      have HS2 := Lib.hid (shareOf_step p c.windows k hlt)
      have hwin := winsFrom_all _ _ _ _ HO.out.2.2.2.2.2.2.2 c.windows[k] (List.getElem_mem hlt)
      have hfr := HO.out.2.1
      have b0 : 0 ≤ c.windows[k].from_ := by omega
      have b1 : c.windows[k].from_ < c.windows[k].to_ := by omega
      have b2 : c.windows[k].to_ ≤ 256 := by omega
      clear hwin hfr
      by_cases he : c.windows[k].part = p
      · have e1 : (c.windows[k].part == p) = true := by simp [he]
        have HE := Lib.hid he
        clear he
        have s1 : IntKind.i64.wrap (ov + c.windows[k].to_) = ov + c.windows[k].to_ := IntWalk.i64_in _ (by omega)
        have s2 : IntKind.i64.wrap (ov + c.windows[k].to_ - c.windows[k].from_) = ov + c.windows[k].to_ - c.windows[k].from_ := IntWalk.i64_in _ (by omega)
        go_wp2_with fail
        go_quiet (fail)
        clear s1 s2
        go_wp2_with fail
        go_roundw
        case rel => exact ⟨k + 1, _, by omega, by go_num, rfl, by omega, by omega, Lib.hid (by rw [HD.out, HS2.out, if_pos HE.out]; omega), below_drewN HB.out _⟩
        case measure => simp [intOf]; omega
      · have e1 : (c.windows[k].part == p) = false := by simp [he]
        have HE := Lib.hid he
        clear he
        go_wp2_with fail
        go_roundw
        case rel => exact ⟨k + 1, _, by omega, by go_num, rfl, by omega, by omega, Lib.hid (by rw [HD.out, HS2.out, if_neg HE.out]; omega), HB.out⟩
        case measure => simp [intOf]; omega
    · have hfin : shareOf p c.windows = ov := by
        rw [HD.out, List.drop_of_length_le (by omega)]; simp [shareOf]
      have HF := Lib.hid hfin
      clear hfin HD
      go_wp2_with fail
      go_ret
      exact ⟨ret_int HF.out.symm, bthen HBX.out HB.out⟩
end Go.Proofs.Ythnecccakeminaa
