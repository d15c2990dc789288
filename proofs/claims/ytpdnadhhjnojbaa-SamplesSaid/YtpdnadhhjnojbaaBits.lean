/- Masks of whole numbers. -/
import Derived.WalkKit
import Derived.Laws.BitsLemmas
namespace Go.Proofs.Ytpdnadhhjnojbaa
open Go.RowKit

theorem i64_mask (i : Nat) (hi : i ≤ 62) (x : Int) : bits .and .i64 x (2 ^ i - 1) = x % 2 ^ i := by
  have hpos : 0 < 2 ^ i := Nat.two_pow_pos i
  have h62 : 2 ^ i ≤ 2 ^ 62 := Nat.pow_le_pow_right (by decide) hi
  have hc : ((2 : Int) ^ i - 1) = ((2 ^ i - 1 : Nat) : Int) := by
    rw [Int.natCast_sub hpos]; simp
  have hm : (2 ^ i - 1) % 2 ^ 64 = 2 ^ i - 1 := Nat.mod_eq_of_lt (by omega)
  have hb : IntKind.i64.bits = 64 := rfl
  rw [hc]
  simp only [bits, BitVec.ofInt_natCast, BitVec.toNat_and, BitVec.toNat_ofNat, BitVec.toNat_ofInt, hb, hm]
  rw [Nat.and_two_pow_sub_one_eq_mod]
  have hlt : (x % ((2 ^ 64 : Nat) : Int)).toNat % 2 ^ i < 2 ^ i := Nat.mod_lt _ hpos
  have hw : ∀ n : Nat, n < 2 ^ i → IntKind.i64.wrap (n : Int) = n := by
    intro n hn
    rw [IntKind.wrap_i64]
    have : n < 2 ^ 62 := by omega
    omega
  rw [hw _ hlt]
  have h0 : 0 ≤ x % ((2 ^ 64 : Nat) : Int) := Int.emod_nonneg _ (by decide)
  rw [Int.natCast_emod, Int.toNat_of_nonneg h0]
  rw [Int.emod_emod_of_dvd _ (by
    have : (2 : Nat) ^ i ∣ 2 ^ 64 := Nat.pow_dvd_pow 2 (by omega)
    exact_mod_cast this)]
  simp

theorem i64_and1 (x : Int) : bits .and .i64 x 1 = x % 2 := by simpa using i64_mask 1 (by decide) x
theorem i64_and3 (x : Int) : bits .and .i64 x 3 = x % 4 := by simpa using i64_mask 2 (by decide) x
theorem i64_and7 (x : Int) : bits .and .i64 x 7 = x % 8 := by simpa using i64_mask 3 (by decide) x
theorem i64_and31 (x : Int) : bits .and .i64 x 31 = x % 32 := by simpa using i64_mask 5 (by decide) x
theorem i64_and127 (x : Int) : bits .and .i64 x 127 = x % 128 := by simpa using i64_mask 7 (by decide) x
theorem i64_and255 (x : Int) : bits .and .i64 x 255 = x % 256 := by simpa using i64_mask 8 (by decide) x
theorem i64_and511 (x : Int) : bits .and .i64 x 511 = x % 512 := by simpa using i64_mask 9 (by decide) x
theorem i64_and1048575 (x : Int) : bits .and .i64 x 1048575 = x % 1048576 := by simpa using i64_mask 20 (by decide) x
end Go.Proofs.Ytpdnadhhjnojbaa
