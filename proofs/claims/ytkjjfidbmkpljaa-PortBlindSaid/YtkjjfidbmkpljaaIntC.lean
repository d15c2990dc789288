/- law0's functions at whole numbers. -/
import Derived.Test.YtkjjfidbmkpljaaRng2
set_option linter.unusedVariables false
set_option linter.unusedSimpArgs false
namespace Go.Proofs.Ytkjjfidbmkpljaa
open Go.RowKit

set_option maxRecDepth 100000 in
set_option maxHeartbeats 400000 in
theorem sameInts_any (v v' : Value) (xs : List Int) (w : World) (hv : IntsV w v xs) (hv' : IntsV w v' xs) :
    Calls Try.prog 21 #[v, v'] w fun e w' => e = .returned (.bool true) ∧ Below w.heap.size w w' := by
  obtain ⟨a, cap, rfl, h2, h3, h4, h5⟩ := hv
  obtain ⟨a', cap', rfl, -, h3', h4', h5'⟩ := hv'
  have H := Lib.hid h5
  have H' := Lib.hid h5'
  have hl : xs.length ≤ 1000000000000000000 := by omega
  clear h5 h5'
  go_enter Try.func21, Try.ntmps21
  go_wp2_with fail
  go_loopw [5] (fun i wr => ∃ k : Nat, k ≤ xs.length ∧ i = .int .i64 k ∧ Below w.heap.size w wr) (fun i _ => xs.length - (intOf i).toNat)
  case atStart => exact ⟨0, by omega, rfl, Below.refl _ _⟩
  case round =>
    obtain ⟨k, hk, rfl, hB⟩ := hrel
    have HB := Lib.hid hB
    clear hB
    by_cases hlt : k < xs.length
    · obtain ⟨b, off, rfl, hc⟩ := H.out (by intro h; rw [h] at hlt; simp at hlt)
      obtain ⟨b', off', rfl, hc'⟩ := H'.out (by intro h; rw [h] at hlt; simp at hlt)
      have q := IntAt.ext (Ext.below HB.out) (hc k hlt)
      have q' := IntAt.ext (Ext.below HB.out) (hc' k hlt)
      unfold IntAt at q q'
      rw [Nat.mul_one] at q q'
      clear hc hc'
      go_wp2_with fail
      go_quiet (fail)
      go_wp2_with fail
      go_roundw
      case rel => exact ⟨k + 1, by omega, by go_num, below_drewN HB.out _⟩
      case measure => simp [intOf]; omega
    · go_wp2_with fail
      go_ret
      exact ⟨rfl, HB.out⟩
theorem IntRow.of {W : World} {B n : Nat} {v : Value} {es : List Int} (hn : es.length = n) (h : W.ownsRow B 3 1 v n (es.flatMap intCell)) : IntRow W B v es := by
  subst hn
  exact h
theorem int_set (xs : List Int) (k : Nat) (h : k < xs.length) (t : Int) : (xs.flatMap intCell).set k (.int .i64 t) = (xs.set k t).flatMap intCell := by
  induction xs generalizing k with
  | nil => simp at h
  | cons x r ih =>
    cases k with
    | zero => simp [intCell]
    | succ k =>
      have := ih k (by simpa using h)
      simp only [List.flatMap_cons, intCell, List.cons_append, List.nil_append, List.set_cons_succ] at this ⊢
      rw [this]
theorem IntsV.get {w : World} {v : Value} {xs : List Int} (h : IntsV w v xs) {k : Nat} (hk : k < xs.length) : ∃ b off cap, v = .slice (some ⟨b, off, none⟩) xs.length cap ∧ IntAt w b (off + k) xs[k] := by
  obtain ⟨a, cap, e, -, -, -, hc⟩ := h
  obtain ⟨b, off, rfl, hq⟩ := hc (by rintro rfl; simp at hk)
  have := hq k hk
  rw [Nat.mul_one] at this
  exact ⟨b, off, cap, e, this⟩
set_option maxRecDepth 100000 in
set_option maxHeartbeats 2000000 in
theorem spoilInts_any (v : Value) (B : Nat) (xs : List Int) (w : World) (hr : IntRow w B v xs) (hsm : xs.length * 8 ≤ 140737488351232) :
    Calls Try.prog 23 #[v] w fun e w' => e = .returned (.tuple #[]) ∧ w.grownBy w' v.ownBlock := by
  obtain ⟨va, vc, e⟩ := own_shape hr
  have hl : xs.length ≤ 1000000000000000000 := by omega
  have HR := Lib.hid hr
  subst e
  clear hr
  go_enter Try.func23, Try.ntmps23
  go_wp2_with fail
  go_loopw [2] (fun i wr => ∃ k : Nat, k ≤ xs.length ∧ i = .int .i64 k ∧ (∃ es : List Int, es.length = xs.length ∧ Hid (IntRow wr B (.slice va xs.length vc) es)) ∧ Hid (w.grownBy wr (Value.slice va xs.length vc).ownBlock)) (fun i _ => xs.length - (intOf i).toNat)
  case atStart => exact ⟨0, by omega, rfl, ⟨xs, rfl, HR⟩, Lib.hid (World.grownBy.refl w _)⟩
  case round =>
    obtain ⟨k, hk, rfl, ⟨es, he, HE⟩, HG⟩ := hrel
    by_cases hlt : k < xs.length
    · rcases HE.out.2 with ⟨h, h0⟩ | ⟨g, c, cur, e, hBg, hheap, hnc, hcm, hlen, htake⟩
      · omega
      · injection e with e1 e2 e3
        subst e1
        subst e3
        have hke : k < es.length := by omega
        obtain ⟨b', o', c', e', y0⟩ := (IntRow.ints HE.out (by omega)).get hke
        injection e' with e1 _ _
        injection e1 with e1
        injection e1 with e1 e2
        subst e1
        subst e2
        unfold IntAt at y0
        simp only [Nat.zero_add] at y0
        have f0 := thaw hheap k
        have HEE := Lib.hid he
        clear hheap hnc hcm hlen htake he
        go_wp2_with fail
        have hE : wr.ownsRow B 3 1 (.slice (some ⟨g, 0, none⟩) xs.length vc) xs.length (es.flatMap intCell) := by have h := HE.out; unfold IntRow at h; rwa [HEE.out] at h
        have hN := own_set hE k (.int .i64 (wrap64 (-9 - es[k])))
        rw [int_set es k hke] at hN
        refine ⟨⟨k + 1, by omega, rfl, ⟨_, ?_, Lib.hid (IntRow.of ?_ hN)⟩, Lib.hid (grown_trans HG.out (set_grown _ _ _ _))⟩, by simp [intOf]; omega⟩
        · rw [List.length_set, HEE.out]
        · rw [List.length_set, HEE.out]
    · obtain rfl : k = xs.length := by omega
      go_wp2_with fail
      go_end0
      exact ⟨rfl, HG.out⟩
end Go.Proofs.Ytkjjfidbmkpljaa
