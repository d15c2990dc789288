/- The value read from a sample is the value last written. -/
import Derived.Test.YtpdnadhhjnojbaaA2
import Derived.Test.YtpdnadhhjnojbaaBits
import Derived.Deep.LoopGhost
namespace Go.Proofs.Ytpdnadhhjnojbaa
open Go.RowKit

set_option maxHeartbeats 400000 in
theorem samples_walk (b off : Nat) (cap : Nat) (xs : List Int) (reads : Int) (w : World) (hb : b < w.heap.size)
    (hc : ∀ k, k < xs.length → w.cell? ⟨b, off + k, none⟩ = some (.int .i64 (xs.getD k 0))) :
    Calls Try.prog 3 #[.slice (some ⟨b, off, none⟩) xs.length cap, .int .i64 reads] w fun e w' => e = .returned (.bool true) ∧ Below w.heap.size w w' := by
  have HC := Lib.hid hc; clear hc
  go_enter Try.func3, Try.ntmps3
  go_wp2_with fail
  refine (new_s w).mono ?_
  rintro e w1 ⟨rfl, h1, b1, s1⟩
  have B1 := Lib.hid b1; clear b1
  have H1 := Lib.hid h1; have S1 := Lib.hid s1; clear h1 s1
  go_wp2_with fail
  refine (read_s _ _ _ w1 H1.out).mono ?_
  rintro e w2 ⟨rfl, n2, rfl⟩
  go_wp2_with fail
  obtain ⟨wx, hwx⟩ : ∃ wx : World, wx = w1.drewN n2 := ⟨_, rfl⟩
  have hk : ∃ y c, IsS wx w.heap.size y c := by subst hwx; exact ⟨_, _, H1.out.drewN n2⟩
  have hbel : Below w.heap.size w wx := by subst hwx; exact below_drewN B1.out n2
  rw [← hwx]
  clear hwx
  go_loopw [8, 9, 10, 11] (fun i _ _ _ wr => ∃ k : Nat, k ≤ xs.length ∧ i = .int .i64 k ∧ (∃ y c, IsS wr w.heap.size y c) ∧ Below w.heap.size w wr) (fun i _ _ _ _ => xs.length - (intOf i).toNat)
  case atStart => exact ⟨0, Nat.zero_le _, rfl, hk, hbel⟩
  case round =>
    obtain ⟨k, hkl, rfl, ⟨y, c, hs⟩, hB⟩ := hrel
    clear hk hbel
    have HS := Lib.hid hs
    have HB := Lib.hid hB
    have hlt' : k < xs.length → wr.cell? ⟨b, off + k, none⟩ = some (.int .i64 (xs.getD k 0)) := fun h => by rw [hB.cell (p := ⟨b, off + k, none⟩) hb]; exact HC.out k h
    clear hs hB
    go_wp2_with fail
    · refine (write_s _ y _ c _ HS.out).mono ?_
      rintro e w3 ⟨rfl, h3, o3⟩
      have HS3 := Lib.hid h3
      have HB3 : Below w.heap.size w w3 := HB.out.trans o3.1
      have HB3 := Lib.hid HB3
      clear h3 o3 HS HB
      go_wp2_with fail
      have hlt : k < xs.length := by assumption
      have hcell : w3.cell? ⟨b, off + k, none⟩ = some (.int .i64 (xs.getD k 0)) := by rw [HB3.out.cell (p := ⟨b, off + k, none⟩) hb]; exact HC.out k hlt
      obtain ⟨wo, rfl⟩ : ∃ wo : World, wo = w3 := ⟨_, rfl⟩
      go_loopw [9, 10, 11] (fun j _ _ wr2 => ∃ m : Nat, m ≤ 2 ∧ j = .int .i64 m ∧ IsS wr2 w.heap.size (xs.getD k 0) true ∧ Below w.heap.size w wr2) (fun j _ _ _ => 2 - (intOf j).toNat)
      case atStart => exact ⟨0, by omega, rfl, by simpa [hlt] using HS3.out, HB3.out⟩
      case round =>
        obtain ⟨m, hm, rfl, hs4, hb4⟩ := hrel
        have HS4 := Lib.hid hs4
        have HB4 := Lib.hid hb4
        clear hs4 hb4
        have hcell2 : wr.cell? ⟨b, off + k, none⟩ = some (.int .i64 (xs.getD k 0)) := by rw [HB4.out.cell (p := ⟨b, off + k, none⟩) hb]; exact HC.out k hlt
        have hbit := i64_and1 (reads / 2 ^ k)
        have hb1 : bits BinOp.and IntKind.i64 (reads / 2 ^ k) 1 ≤ 1 := by omega
        have hb0 : 0 ≤ bits BinOp.and IntKind.i64 (reads / 2 ^ k) 1 := by omega
        clear hbit
        go_wp2_with fail
        · refine (read_s _ _ _ _ HS4.out).mono ?_
          rintro e w6 ⟨rfl, n6, rfl⟩
          go_wp2_with fail
          go_roundw
          case rel => exact ⟨m + 1, by omega, by go_num, HS4.out.drewN n6, below_drewN HB4.out n6⟩
          case measure => simp [intOf]; omega
        · go_roundw
          case rel => exact ⟨k + 1, by omega, by go_num, ⟨_, _, HS4.out⟩, HB4.out⟩
          case measure => simp [intOf]; omega
    all_goals
      refine (awake_any _).mono ?_
      rintro e w3 ⟨rfl, b3⟩
      go_wp2_with fail
      go_ret
      exact ⟨rfl, HB.out.trans (b3.mono HB.out.size)⟩

theorem addr_add (b off k : Nat) : (⟨b, off, none⟩ : Addr).add k = ⟨b, off + k, none⟩ := by
  unfold Addr.add
  split
  · simp_all
  · rfl
theorem cell_lt {w : World} {a : Addr} {v : Value} (h : w.cell? a = some v) : a.block < w.heap.size := by
  rcases Nat.lt_or_ge a.block w.heap.size with h' | h'
  · exact h'
  · simp [World.cell?, Array.getElem?_eq_none h'] at h

set_option maxHeartbeats 400000 in
theorem samples_none (a : Option Addr) (cap : Nat) (reads : Int) (w : World) :
    Calls Try.prog 3 #[.slice a 0 cap, .int .i64 reads] w fun e w' => e = .returned (.bool true) ∧ Below w.heap.size w w' := by
  go_enter Try.func3, Try.ntmps3
  go_wp2_with fail
  refine (new_s w).mono ?_
  rintro e w1 ⟨rfl, h1, b1, s1⟩
  have B1 := Lib.hid b1; clear b1
  have H1 := Lib.hid h1; have S1 := Lib.hid s1; clear h1 s1
  go_wp2_with fail
  refine (read_s _ _ _ w1 H1.out).mono ?_
  rintro e w2 ⟨rfl, n2, rfl⟩
  go_wp2_with fail
  refine wp_loop_rounds 1 ?_
  rw [rounds_succ]
  go_wp2_with fail
  refine (awake_any _).mono ?_
  rintro e w3 ⟨rfl, b3⟩
  go_wp2_with fail
  go_ret
  exact ⟨rfl, (below_drewN B1.out n2).trans (b3.mono B1.out.size)⟩

theorem samples_any (a : Option Addr) (len cap : Nat) (xs : List Int) (reads : Int) (w : World) (hlen : xs.length = len)
    (hc : (a = none ∧ len = 0 ∧ cap = 0) ∨ ∃ x, a = some x ∧ ∀ k, k < len → w.cell? (x.add k) = some (.int .i64 (xs.getD k 0))) :
    Calls Try.prog 3 #[.slice a len cap, .int .i64 reads] w fun e w' => e = .returned (.bool true) ∧ Below w.heap.size w w' := by
  subst hlen
  rcases Nat.eq_zero_or_pos xs.length with h0 | h0
  · have e : xs = [] := List.length_eq_zero_iff.1 h0
    subst e
    exact samples_none a cap reads w
  · rcases hc with ⟨_, h1, _⟩ | ⟨x, rfl, hc⟩
    · omega
    · obtain ⟨b, off, sp⟩ := x
      have h2 := hc 0 h0
      obtain rfl : sp = none := by
        cases sp with
        | none => rfl
        | some y => simp [World.cell?, Addr.add] at h2; split at h2 <;> simp at h2
      exact samples_walk b off cap xs reads w (cell_lt h2) (fun k hk => by rw [← addr_add]; exact hc k hk)
end Go.Proofs.Ytpdnadhhjnojbaa
