/- What the functions of package tick answer, and the reference's. -/
import Derived.Test.YtgpefejghhgnmaaFrm1
import Derived.Lib.Mul64
import Derived.Laws.Bits64b
import Derived.IntWalk
set_option linter.unusedVariables false
set_option linter.unusedSimpArgs false
namespace Go.Proofs.Ytgpefejghhgnmaa
open Go.RowKit

def two64 : Nat := 18446744073709551616
def mulSpec (a b : Nat) : Int × Int := if a * b < two64 then (((a * b : Nat) : Int), 0) else (0, 100)
def lcmSpec (a b : Nat) : Int × Int := if a = 0 ∨ b = 0 then (0, 0) else mulSpec (a / Nat.gcd a b) b

theorem maskN (a : Nat) (ha : a < 18446744073709551616) : bits .and .u64 (a : Int) 4294967295 = ((a % 4294967296 : Nat) : Int) := by
  have h := bits_and_u64_nat a 4294967295 ha (by omega)
  have e : a &&& 4294967295 = a % 4294967296 := Nat.and_two_pow_sub_one_eq_mod a 32
  rw [e] at h
  exact h
theorem divN (a : Nat) : (a : Int) / 4294967296 = ((a / 4294967296 : Nat) : Int) := by omega
theorem mulN (a b : Nat) : (a : Int) * (b : Int) = ((a * b : Nat) : Int) := (Int.natCast_mul a b).symm
theorem addN (a b : Nat) : (a : Int) + (b : Int) = ((a + b : Nat) : Int) := (Int.natCast_add a b).symm
theorem wrapN (a : Nat) (ha : a < 18446744073709551616) : IntKind.u64.wrap (a : Int) = (a : Int) := by rw [IntKind.wrap_u64]; omega
theorem wrapM (a : Nat) : IntKind.u64.wrap (a : Int) = ((a % 18446744073709551616 : Nat) : Int) := by rw [IntKind.wrap_u64]; omega

set_option maxRecDepth 100000 in
set_option maxHeartbeats 1000000 in
theorem mul64_any (x y : Nat) (hx : x < 18446744073709551616) (hy : y < 18446744073709551616) (w : World) :
    Calls Try.prog 60 #[.int .u64 x, .int .u64 y] w fun e w' => e = .returned (.tuple #[.int .u64 ((x * y / 18446744073709551616 : Nat) : Int), .int .u64 ((x * y % 18446744073709551616 : Nat) : Int)]) ∧ w' = w := by
  obtain ⟨bd, bt, bw, hhi⟩ := Lib.mul64_hi x y hx hy
  have ba := Lib.half_mul_le (a := x / 4294967296) (b := y / 4294967296) (by omega) (by omega)
  have bb := Lib.half_mul_le (a := x / 4294967296) (b := y % 4294967296) (by omega) (by omega)
  have bc := Lib.half_mul_le (a := x % 4294967296) (b := y / 4294967296) (by omega) (by omega)
  have ba' : x / 4294967296 * (y / 4294967296) < 18446744073709551616 := by omega
  have bb' : x / 4294967296 * (y % 4294967296) < 18446744073709551616 := by omega
  have bc' : x % 4294967296 * (y / 4294967296) < 18446744073709551616 := by omega
  have bh1 : x / 4294967296 * (y / 4294967296) + (x / 4294967296 * (y % 4294967296) + x % 4294967296 * (y % 4294967296) / 4294967296) / 4294967296 < 18446744073709551616 := by omega
  have bh : x / 4294967296 * (y / 4294967296) + (x / 4294967296 * (y % 4294967296) + x % 4294967296 * (y % 4294967296) / 4294967296) / 4294967296 + ((x / 4294967296 * (y % 4294967296) + x % 4294967296 * (y % 4294967296) / 4294967296) % 4294967296 + x % 4294967296 * (y / 4294967296)) / 4294967296 < 18446744073709551616 := by omega
  go_enter Try.func60, Try.ntmps60
  go_wp2
  simp only [maskN x hx, maskN y hy, divN, mulN, addN, wrapN _ bd, wrapN _ bb', wrapN _ bt, maskN _ bt, wrapN _ bc', wrapN _ bw, wrapN _ ba', wrapN _ bh1, wrapN _ bh, wrapM (x * y)]
  rw [hhi]
  go_ret2
  exact ⟨rfl, rfl⟩

set_option maxRecDepth 100000 in
set_option maxHeartbeats 400000 in
theorem mul_any (x y : Nat) (hx : x < 18446744073709551616) (hy : y < 18446744073709551616) (w : World) :
    Calls Try.prog 44 #[.int .u64 x, .int .u64 y] w fun e w' => e = .returned (.tuple #[.int .u64 (mulSpec x y).1, .int .i64 (mulSpec x y).2]) ∧ w' = w := by
  obtain ⟨h, hh⟩ : ∃ h : Nat, x * y / 18446744073709551616 = h := ⟨_, rfl⟩
  obtain ⟨l, hl⟩ : ∃ l : Nat, x * y % 18446744073709551616 = l := ⟨_, rfl⟩
  have H := Lib.hid (And.intro hh hl)
  have C := Lib.hid (mul64_any x y hx hy w)
  rw [hh, hl] at C
  clear hh hl
  rcases Nat.eq_zero_or_pos h with h0 | h0
  · subst h0
    have HS : Hid (mulSpec x y = ((l : Int), 0)) := Lib.hid (by
      have := H.out
      unfold mulSpec two64
      rw [if_pos (by omega)]
      congr 2
      omega)
    go_enter Try.func44, Try.ntmps44
    go_wp2_with fail
    refine C.out.mono ?_
    rintro e w' ⟨rfl, rfl⟩
    go_wp2_with fail
    go_ret2
    exact ⟨ret_pair HS.out, rfl⟩
  · have HS : Hid (mulSpec x y = (0, 100)) := Lib.hid (by
      have := H.out
      unfold mulSpec two64
      rw [if_neg (by omega)])
    have h1 : (0 : Int) < (h : Int) := by omega
    go_enter Try.func44, Try.ntmps44
    go_wp2_with fail
    refine C.out.mono ?_
    rintro e w' ⟨rfl, rfl⟩
    go_wp2_with fail
    go_ret2
    exact ⟨ret_pair HS.out, rfl⟩

set_option maxRecDepth 100000 in
set_option maxHeartbeats 400000 in
theorem gcd_any (a b : Nat) (ha : a < 18446744073709551616) (hb : b < 18446744073709551616) (w : World) :
    Calls Try.prog 45 #[.int .u64 a, .int .u64 b] w fun e w' => e = .returned (.int .u64 (Nat.gcd a b : Nat)) ∧ Below w.heap.size w w' := by
  go_enter Try.func45, Try.ntmps45
  go_wp2_with fail
  go_loopw [0, 1] (fun u v wr => ∃ x y : Nat, u = .int .u64 x ∧ v = .int .u64 y ∧ x < 18446744073709551616 ∧ y < 18446744073709551616 ∧ Hid (Nat.gcd a b = Nat.gcd x y) ∧ Below w.heap.size w wr) (fun _ v _ => (intOf v).toNat)
  case atStart => exact ⟨a, b, rfl, rfl, ha, hb, Lib.hid rfl, Below.refl _ _⟩
  case round =>
    obtain ⟨x, y, rfl, rfl, hx, hy, HG, hB⟩ := hrel
    have HB := Lib.hid hB
    clear hB
    rcases Nat.eq_zero_or_pos y with h0 | h0
    · subst h0
      have HX : Hid (Nat.gcd a b = x) := Lib.hid (by rw [HG.out, Nat.gcd_zero_right])
      clear HG
      go_wp2_with fail
      go_ret
      exact ⟨ret_int (by rw [HX.out]), HB.out⟩
    · have h1 : (0 : Int) < (y : Int) := by omega
      have e0 : ((y : Int) == 0) = false := by simp; omega
      have hlt : x % y < y := Nat.mod_lt _ h0
      have hm : (x : Int).tmod (y : Int) = ((x % y : Nat) : Int) := by rw [Int.tmod_eq_emod_of_nonneg (by omega)]; rfl
      have hm2 : (x : Int) % (y : Int) = ((x % y : Nat) : Int) := rfl
      obtain ⟨m, hmm⟩ : ∃ m, x % y = m := ⟨_, rfl⟩
      rw [hmm] at hm hm2 hlt
      have HM := Lib.hid hmm
      clear hmm
      have hw : IntKind.u64.wrap (m : Int) = (m : Int) := wrapN _ (by omega)
      go_wp2_with fail
      go_quiet (fail)
      go_wp2_with fail
      go_roundw
      case rel => exact ⟨y, m, rfl, rfl, hy, by omega, Lib.hid (by rw [HG.out, ← HM.out, Nat.gcd_comm x y, Nat.gcd_rec y x, Nat.gcd_comm]), below_drewN HB.out _⟩
      case measure => simp [intOf]; omega
end Go.Proofs.Ytgpefejghhgnmaa
