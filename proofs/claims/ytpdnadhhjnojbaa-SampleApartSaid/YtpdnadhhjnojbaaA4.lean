/- Two samples do not know of one another: the walk. -/
import Derived.Test.YtpdnadhhjnojbaaA3
namespace Go.Proofs.Ytpdnadhhjnojbaa
open Go.RowKit

theorem IsS.below {w w' : World} {g : Nat} {x : Int} {b : Bool} (h : IsS w g x b) (hb : Below w.heap.size w w') : IsS w' g x b :=
  (hb.block g h.lt).trans h
theorem IsS.only {w w' : World} {g g' : Nat} {x : Int} {b : Bool} (h : IsS w g x b) (hb : Only g' w w') (hne : g ≠ g') : IsS w' g x b :=
  (hb.2.1 g hne).trans h

set_option maxHeartbeats 400000 in
theorem apart_walk (b off : Nat) (cap : Nat) (xs : List Int) (which : Int) (w : World) (hb : b < w.heap.size)
    (hc : ∀ k, k < xs.length → w.cell? ⟨b, off + k, none⟩ = some (.int .i64 (xs.getD k 0))) :
    Calls Try.prog 4 #[.slice (some ⟨b, off, none⟩) xs.length cap, .int .i64 which] w fun e w' => e = .returned (.bool true) ∧ Below w.heap.size w w' := by
  have HC := Lib.hid hc; clear hc
  go_enter Try.func4, Try.ntmps4
  go_wp2_with fail
  refine (awake_any _).mono ?_
  rintro e w0 ⟨rfl, b0⟩
  have B0 := Lib.hid b0; clear b0
  go_wp2_with fail
  refine (new_s w0).mono ?_
  rintro e w1 ⟨rfl, h1, b1, s1⟩
  have B1 := Lib.hid (B0.out.trans (b1.mono B0.out.size)); 
  have H1 := Lib.hid h1; have S1 := Lib.hid s1; clear h1 s1 b1
  go_wp2_with fail
  refine (new_s w1).mono ?_
  rintro e w2 ⟨rfl, h2, b2, s2⟩
  have B2 := Lib.hid (B1.out.trans (b2.mono B1.out.size))
  have HA := Lib.hid (H1.out.below b2)
  have HB := Lib.hid h2
  have hne : w0.heap.size < w1.heap.size := by rw [S1.out]; omega
  have hg1 : w.heap.size ≤ w0.heap.size := B0.out.size
  clear B0 B1 b2 H1 S1 h2 s2
  obtain ⟨g1, hg1e⟩ : ∃ g, g = w0.heap.size := ⟨_, rfl⟩
  obtain ⟨g2, hg2e⟩ : ∃ g, g = w1.heap.size := ⟨_, rfl⟩
  rw [← hg1e] at hne HA hg1 ⊢
  rw [← hg2e] at hne HB ⊢
  clear hg1e hg2e
  go_wp2_with fail
  obtain ⟨wo, rfl⟩ : ∃ wo : World, wo = w2 := ⟨_, rfl⟩
  go_loopw [7, 8, 9, 10, 11, 12, 13, 14, 15] (fun x y s a i _ _ _ _ wr => ∃ (k : Nat) (xv yv : Int) (sv av : Bool), k ≤ xs.length ∧ i = .int .i64 k ∧ x = .int .i64 xv ∧ y = .int .i64 yv ∧ s = .bool sv ∧ a = .bool av ∧ IsS wr g1 xv sv ∧ IsS wr g2 yv av ∧ Below w.heap.size w wr) (fun _ _ _ _ i _ _ _ _ _ => xs.length - (intOf i).toNat)
  case atStart => exact ⟨0, 0, 0, false, false, Nat.zero_le _, rfl, rfl, rfl, rfl, rfl, HA.out, HB.out, B2.out⟩
  case round =>
    obtain ⟨k, xv, yv, sv, av, hk, rfl, rfl, rfl, rfl, rfl, ha, hb1, hbel⟩ := hrel
    have HA := Lib.hid ha
    have HB := Lib.hid hb1
    have HL := Lib.hid hbel
    clear ha hb1 hbel
    have hcell : k < xs.length → wr.cell? ⟨b, off + k, none⟩ = some (.int .i64 (xs.getD k 0)) := fun h => by rw [HL.out.cell (p := ⟨b, off + k, none⟩) hb]; exact HC.out k h
    have h31 := i64_and31 k
    have hlo : 0 ≤ bits BinOp.and IntKind.i64 (k : Int) 31 := by omega
    have hhi : bits BinOp.and IntKind.i64 (k : Int) 31 < 64 := by omega
    clear h31
    go_wp2_with fail
    · refine (write_s _ xv _ sv _ HA.out).mono ?_
      rintro e w3 ⟨rfl, h3, o3⟩
      have hlt : k < xs.length := by assumption
      have HA3 := Lib.hid h3
      have HB3 := Lib.hid (HB.out.only o3 (by omega))
      have HL3 := Lib.hid (HL.out.trans (o3.1.mono (by omega)))
      have hcell3 : w3.cell? ⟨b, off + k, none⟩ = some (.int .i64 (xs.getD k 0)) := by rw [HL3.out.cell (p := ⟨b, off + k, none⟩) hb]; exact HC.out k hlt
      clear h3 o3 HA HB HL
      go_wp2_with fail
      refine (read_s _ _ _ _ HA3.out).mono ?_
      rintro e w4 ⟨rfl, n4, rfl⟩
      go_wp2_with fail
      refine (read_s _ _ _ _ (HB3.out.drewN n4)).mono ?_
      rintro e w5 ⟨rfl, n5, rfl⟩
      go_wp2_with fail
      go_roundw
      case rel => exact ⟨k + 1, _, _, true, av, by omega, by go_num, rfl, rfl, rfl, rfl, HA3.out.drewN _, HB3.out.drewN _, below_drewN HL3.out _⟩
      case measure => simp [intOf]; omega
    · refine (write_s _ yv _ av _ HB.out).mono ?_
      rintro e w3 ⟨rfl, h3, o3⟩
      have hlt : k < xs.length := by assumption
      have HB3 := Lib.hid h3
      have HA3 := Lib.hid (HA.out.only o3 (by omega))
      have HL3 := Lib.hid (HL.out.trans (o3.1.mono (by omega)))
      have hcell3 : w3.cell? ⟨b, off + k, none⟩ = some (.int .i64 (xs.getD k 0)) := by rw [HL3.out.cell (p := ⟨b, off + k, none⟩) hb]; exact HC.out k hlt
      clear h3 o3 HA HB HL
      go_wp2_with fail
      refine (read_s _ _ _ _ HA3.out).mono ?_
      rintro e w4 ⟨rfl, n4, rfl⟩
      go_wp2_with fail
      refine (read_s _ _ _ _ (HB3.out.drewN n4)).mono ?_
      rintro e w5 ⟨rfl, n5, rfl⟩
      go_wp2_with fail
      go_roundw
      case rel => exact ⟨k + 1, _, _, sv, true, by omega, by go_num, rfl, rfl, rfl, rfl, HA3.out.drewN _, HB3.out.drewN _, below_drewN HL3.out _⟩
      case measure => simp [intOf]; omega
    all_goals
      refine (num_any _ _).mono ?_
      rintro e w6 ⟨rfl, rfl⟩
      go_wp2_with fail
      go_ret
      exact ⟨rfl, HL.out⟩

set_option maxHeartbeats 400000 in
theorem apart_none (a : Option Addr) (cap : Nat) (which : Int) (w : World) :
    Calls Try.prog 4 #[.slice a 0 cap, .int .i64 which] w fun e w' => e = .returned (.bool true) ∧ Below w.heap.size w w' := by
  go_enter Try.func4, Try.ntmps4
  go_wp2_with fail
  refine (awake_any _).mono ?_
  rintro e w0 ⟨rfl, b0⟩
  have B0 := Lib.hid b0; clear b0
  go_wp2_with fail
  refine (new_s w0).mono ?_
  rintro e w1 ⟨rfl, h1, b1, s1⟩
  have B1 := Lib.hid (B0.out.trans (b1.mono B0.out.size)); clear h1 b1 s1 B0
  go_wp2_with fail
  refine (new_s w1).mono ?_
  rintro e w2 ⟨rfl, h2, b2, s2⟩
  have B2 := Lib.hid (B1.out.trans (b2.mono B1.out.size)); clear h2 b2 s2 B1
  go_wp2_with fail
  refine wp_loop_rounds 1 ?_
  rw [rounds_succ]
  go_wp2_with fail
  refine (num_any _ _).mono ?_
  rintro e w6 ⟨rfl, rfl⟩
  go_wp2_with fail
  go_ret
  exact ⟨rfl, B2.out⟩

theorem apart_any (a : Option Addr) (len cap : Nat) (xs : List Int) (which : Int) (w : World) (hlen : xs.length = len)
    (hc : (a = none ∧ len = 0 ∧ cap = 0) ∨ ∃ x, a = some x ∧ ∀ k, k < len → w.cell? (x.add k) = some (.int .i64 (xs.getD k 0))) :
    Calls Try.prog 4 #[.slice a len cap, .int .i64 which] w fun e w' => e = .returned (.bool true) ∧ Below w.heap.size w w' := by
  subst hlen
  rcases Nat.eq_zero_or_pos xs.length with h0 | h0
  · have e : xs = [] := List.length_eq_zero_iff.1 h0
    subst e
    exact apart_none a cap which w
  · rcases hc with ⟨_, h1, _⟩ | ⟨x, rfl, hc⟩
    · omega
    · obtain ⟨b, off, sp⟩ := x
      have h2 := hc 0 h0
      obtain rfl : sp = none := by
        cases sp with
        | none => rfl
        | some y => simp [World.cell?, Addr.add] at h2; split at h2 <;> simp at h2
      exact apart_walk b off cap xs which w (cell_lt h2) (fun k hk => by rw [← addr_add]; exact hc k hk)
end Go.Proofs.Ytpdnadhhjnojbaa
