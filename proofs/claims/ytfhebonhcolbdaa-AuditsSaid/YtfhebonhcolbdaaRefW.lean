/- What the reference answers of a tick's window. -/
import Derived.Test.YtfhebonhcolbdaaRef5
set_option linter.unusedVariables false
set_option linter.unusedSimpArgs false
namespace Go.Proofs.Ytfhebonhcolbdaa
open Go.RowKit

set_option maxRecDepth 100000 in
set_option maxHeartbeats 800000 in
theorem refWindow_any (c : Config) (v : Value) (t : Int) (w : World) (hc : CfgV w v c) (h0 : 1 ≤ c.frame) (hf : c.frame ≤ 256) (ht0 : 0 ≤ t) (ht : t ≤ 1000000000000000) :
    Calls Try.prog 31 #[v, .int .i64 t] w fun e w' => e = .returned (.int .i64 (ownerAt (t % c.frame) c.windows)) ∧ Below w.heap.size w w' := by
  obtain ⟨pv, wv, ov, rfl, hcfg⟩ := hc
  have HBX := Lib.hid (balloc w (.cells #[.int .i64 c.frame, .int .i64 c.quiet, pv, wv, ov] 26))
  have hcc := cfg_box w c _ _ _ 26 hcfg
  obtain ⟨wb, hwb⟩ : ∃ wb, wb = w.alloc (.cells #[.int .i64 c.frame, .int .i64 c.quiet, pv, wv, ov] 26) := ⟨_, rfl⟩
  obtain ⟨g, hg⟩ : ∃ g, g = w.heap.size := ⟨_, rfl⟩
  rw [← hwb, ← hg] at hcc
  rw [← hwb] at HBX
  obtain ⟨wa, wcap, rfl, hw1, hw2, hw3, hw4⟩ := hcc.is.windows
  have HW := Lib.hid hw4
  have hl1 : c.windows.length ≤ 1000000000000000 := by omega
  have HC := Lib.hid hcc
  clear hw4 hcc hcfg
  go_enter Try.func31, Try.ntmps31
  go_wp2_with fail
  rw [← hwb, ← hg]
  clear hwb hg
  obtain ⟨m, hm⟩ : ∃ m, m = t % c.frame := ⟨_, rfl⟩
  rw [← hm]
  have HM := Lib.hid hm
  clear hm
  go_loop [6] (fun i => ∃ (k : Nat), k ≤ c.windows.length ∧ i = .int .i64 k ∧ Hid (ownerAt m c.windows = ownerAt m (c.windows.drop k))) (fun i => c.windows.length - (intOf i).toNat)
  case atStart => exact ⟨0, by omega, rfl, Lib.hid (by simp)⟩
  case round =>
    obtain ⟨k, hk, rfl, HD⟩ := hrel
    have z3 := HC.out.c3
    by_cases hlt : k < c.windows.length
    · obtain ⟨b, off, rfl, hcell⟩ := HW.out (by intro h; rw [h] at hlt; simp at hlt)
      obtain ⟨y0, y1, y2⟩ := hcell k hlt
      unfold IntAt at y0 y1 y2
      clear hcell
      have hstep := ownerAt_step m c.windows k hlt
      rw [← HD.out] at hstep
      have HS := Lib.hid hstep
      clear hstep HD
      go_wp2_with fail
      all_goals first
        | (go_ret
           exact ⟨ret_int (by rw [← HM.out, HS.out, if_pos (by omega)]), HBX.out⟩)
        | (go_round
           case rel => exact ⟨k + 1, by omega, by go_num, Lib.hid (by rw [HS.out, if_neg (by omega)])⟩
           case measure => simp [intOf]; omega)
    · have hfin : ownerAt m c.windows = -1 := by
        rw [HD.out, List.drop_of_length_le (by omega)]; rfl
      have HFn := Lib.hid hfin
      clear hfin HD
      go_wp2_with fail
      go_ret
      exact ⟨ret_int (by rw [← HM.out]; exact HFn.out.symm), HBX.out⟩
end Go.Proofs.Ytfhebonhcolbdaa
