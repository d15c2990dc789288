/- Rows: their copies and their comparison. -/
import Derived.Test.YtjhhncahlijohaaRowD
import Derived.Test.YtjhhncahlijohaaTail
set_option linter.unusedVariables false
set_option linter.unusedSimpArgs false
namespace Go.Proofs.Ytjhhncahlijohaa
open Go.RowKit

set_option maxRecDepth 100000 in
set_option maxHeartbeats 400000 in
theorem sameEvents_any (v v' : Value) (xs : List Event) (w : World) (hv : EventsV w v xs) (hv' : EventsV w v' xs) :
    Calls Try.prog 21 #[v, v'] w fun e w' => e = .returned (.bool true) ∧ Below w.heap.size w w' := by
  obtain ⟨a, cap, rfl, h2, h3, h4, h5⟩ := hv
  obtain ⟨a', cap', rfl, -, h3', h4', h5'⟩ := hv'
  have H := Lib.hid h5
  have H' := Lib.hid h5'
  have hl : xs.length ≤ 1000000000000000000 := by omega
  clear h5 h5'
  go_enter Try.func21, Try.ntmps21
  go_wp2_with fail
  go_loopw [5] (fun i wr => ∃ k : Nat, k ≤ xs.length ∧ i = .int .i64 k ∧ Below w.heap.size w wr) (fun i _ => xs.length - (intOf i).toNat)
  case atStart => exact ⟨0, by omega, rfl, Below.refl _ _⟩
  case round =>
    obtain ⟨k, hk, rfl, hB⟩ := hrel
    have HB := Lib.hid hB
    clear hB
    by_cases hlt : k < xs.length
    · obtain ⟨b, off, rfl, hc⟩ := H.out (by intro h; rw [h] at hlt; simp at hlt)
      obtain ⟨b', off', rfl, hc'⟩ := H'.out (by intro h; rw [h] at hlt; simp at hlt)
      have q := EventAt.ext (Ext.below HB.out) (hc k hlt)
      have q' := EventAt.ext (Ext.below HB.out) (hc' k hlt)
      obtain ⟨y0, y1, y2, y3⟩ := q
      obtain ⟨q0, q1, q2, q3⟩ := q'
      unfold IntAt at *
      clear hc hc'
      go_wp2_with fail
      go_quiet (fail)
      go_wp2_with fail
      go_roundw
      case rel => exact ⟨k + 1, by omega, by go_num, below_drewN HB.out _⟩
      case measure => simp [intOf]; omega
    · go_wp2_with fail
      go_ret
      exact ⟨rfl, HB.out⟩
end Go.Proofs.Ytjhhncahlijohaa
