/- KernelClock, plainly. -/
import Derived.Test.YtooeeiiiflfckaaGreatKbX
import Derived.Test.YtooeeiiiflfckaaGreatAwkP
set_option linter.unusedVariables false
set_option linter.unusedSimpArgs false
namespace Go.Proofs.YtooeeiiiflfckaaGreat
open Go.RowKit
def clkK (b : Nat) : Nat -> KSt
 | 0 => newK plainCfg (1099511627776 - b)
 | i + 1 => (tickK (clkK b i) []).1
theorem clk_now (b : Nat) (hb : b <= 31) : ∀ i, (clkK b i).now = 1099511627776 - b + (min i b : Nat)
 | 0 => by show (1099511627776 - (b : Int)) = _; simp
 | i + 1 => by
  have ih := clk_now b hb i
  by_cases h : i < b
  ·have h0 : tickE (clkK b i) [] = 0 := by
    unfold tickE
    rw [if_neg (by omega)]
    rfl
   have := (tickK_same h0).2.2.1
   show (tickK (clkK b i) []).1.now = _
   omega
  ·have h0 : tickE (clkK b i) [] ≠ 0 := by
    unfold tickE
    rw [if_pos (by omega)]
    decide
   show (tickK (clkK b i) []).1.now = _
   rw [tickK_no h0]
   show (clkK b i).now = _
   omega
theorem clk_in {b i : Nat} (hb : b <= 31) (h : i < b) : tickE (clkK b i) [] = 0 /\ (tickK (clkK b i) []).2.tick = 1099511627776 - b + i := by
 have hn := clk_now b hb i
 have h0 : tickE (clkK b i) [] = 0 := by
  unfold tickE
  rw [if_neg (by omega)]
  rfl
 refine ⟨h0, ?_⟩
 rw [(tickK_same h0).2.2.2.2]
 omega
theorem clk_out {b i : Nat} (hb : b <= 31) (h : b <= i) : tickE (clkK b i) [] = 2201 /\ (tickK (clkK b i) []).2 = ⟨0, 0, false, 0, []⟩ /\ (tickK (clkK b i) []).1 = clkK b i /\ (clkK b i).now = 1099511627776 := by
 have hn := clk_now b hb i
 have h0 : tickE (clkK b i) [] = 2201 := by
  unfold tickE
  rw [if_pos (by omega)]
 rw [tickK_no (by rw [h0]; decide)]
 exact ⟨h0, rfl, rfl, by omega⟩
end Go.Proofs.YtooeeiiiflfckaaGreat
