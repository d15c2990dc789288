/- Chapter 22's law KernelClock (printed by gen22b.py). -/
import Derived.Test.YtooeeiiiflfckaaGreatLaw22a
import Derived.Test.YtooeeiiiflfckaaGreatLawC
import Derived.Test.YtooeeiiiflfckaaGreatClkP
set_option linter.unusedVariables false
set_option linter.unusedSimpArgs false
namespace Go.Proofs.YtooeeiiiflfckaaGreat
open Go.RowKit
set_option maxRecDepth 100000 in
set_option maxHeartbeats 16000000 in
theorem kernelClock_any (back more : Int) (w : World) : Calls Tryz.prog 4 #[.int .i64 back, .int .i64 more] w fun e w' => e = .returned (.bool true) /\ Below w.heap.size w w' := by
 obtain ⟨b, hb⟩ := Int.eq_ofNat_of_zero_le (show 0 <= bits BinOp.and IntKind.i64 back 31 by rw [i64_and31]; omega)
 have hb1 : b <= 31 := by have := i64_and31 back; omega
 obtain ⟨y, hy⟩ := Int.eq_ofNat_of_zero_le (show 0 <= bits BinOp.and IntKind.i64 more 255 by rw [i64_and255]; omega)
 have hy1 : y <= 255 := by have := i64_and255 more; omega
 have HB := Lib.hid hb1
 have s1 : IntKind.i64.wrap (1099511627776 - (b : Int)) = 1099511627776 - (b : Int) := by rw [IntKind.wrap_i64]; omega
 have s2 : IntKind.i64.wrap (1099511627777 + (y : Int)) = 1099511627777 + (y : Int) := by rw [IntKind.wrap_i64]; omega
 have s4 : IntKind.i64.wrap ((b : Int) + 3) = (b : Int) + 3 := by rw [IntKind.wrap_i64]; omega
 have HL := Lib.hid (LawAt.start w)
 go_enter Tryz.func4, Tryz.ntmps4
 go_wp2_with (first | (go_at_call 17; refine (num_any _ _).mono ?_; rintro e w' ⟨rfl, hw⟩; subst w') | fail)
 refine (awake22 _).mono ?_
 rintro e w1 ⟨rfl, hb⟩
 replace HL := Lib.hid (HL.out.grow hb)
 clear hb
 go_wp2_with (first | (go_at_call 17; refine (num_any _ _).mono ?_; rintro e w' ⟨rfl, hw⟩; subst w') | fail)
 refine (plain22_any _).mono ?_
 rintro e w2 ⟨v1, rfl, hc, hb⟩
 have HC := Lib.hid hc
 replace HL := Lib.hid (HL.out.grow hb)
 clear hc hb
 go_wp2_with (first | (go_at_call 17; refine (num_any _ _).mono ?_; rintro e w' ⟨rfl, hw⟩; subst w') | fail)
 refine (HL.out.callNew plainCfg _ (1099511627776 - (b : Int)) HC.out plain_admit (clockYes (by omega) (by omega))).mono ?_
 rintro e w3 ⟨Y, G, rfl, hl⟩
 replace HL := Lib.hid (hl)
 clear hl HC
 go_wp2_with (first | (go_at_call 17; refine (num_any _ _).mono ?_; rintro e w' ⟨rfl, hw⟩; subst w') | fail)
 refine (plain22_any _).mono ?_
 rintro e w4 ⟨v1, rfl, hc, hb⟩
 have HC := Lib.hid hc
 replace HL := Lib.hid (HL.out.grow hb)
 clear hc hb
 go_wp2_with (first | (go_at_call 17; refine (num_any _ _).mono ?_; rintro e w' ⟨rfl, hw⟩; subst w') | fail)
 refine (HL.out.callNewClock plainCfg _ (1099511627777 + (y : Int)) HC.out plain_admit (clockNo (by omega))).mono ?_
 rintro e w5 ⟨rfl, hl⟩
 replace HL := Lib.hid (hl)
 clear hl HC
 go_wp2_with (first | (go_at_call 17; refine (num_any _ _).mono ?_; rintro e w' ⟨rfl, hw⟩; subst w') | fail)
 go_loopw [10] (fun i wr => ∃ (k : Nat) (G : Nat -> Prop), k <= b + 3 /\ i = .int .i64 k /\ Hid (LawAt w wr [⟨Y, clkK b k, G, 48 * k⟩] [] [])) (fun i _ => b + 3 - (intOf i).toNat)
 case atStart => exact ⟨0, G, by omega, rfl, HL⟩
 case round =>
  clear HL
  obtain ⟨k, G, hk, rfl, HL⟩ := hrel
  by_cases hlt : k < b + 3
  ·skip
   have hlk : (k : Int) < (b : Int) + 3 := by omega
   obtain ⟨Ke, hKe⟩ : ∃ Ke, Ke = tickE (clkK b k) [] := ⟨_, rfl⟩
   obtain ⟨⟨Kn, rt, ro, rd, rm, re⟩, hR⟩ : ∃ R, R = tickK (clkK b k) [] := ⟨_, rfl⟩
   have HST := Lib.hid (show clkK b (k + 1) = Kn by show (tickK (clkK b k) []).1 = Kn; rw [<- hR])
   have HKE := Lib.hid hKe
   have HRR := Lib.hid hR
   clear hKe hR
   go_wp2_with (first | (go_at_call 17; refine (num_any _ _).mono ?_; rintro e w' ⟨rfl, hw⟩; subst w') | fail)
   refine (HL.out.tick (by omega) [] _ (slice0 _ _ _ _) (offNil _)).mono ?_
   rw [<- HRR.out, <- HKE.out]
   rintro e w21 ⟨ra, rn, rc, G2, rfl, hn, hl⟩
   simp only at hn hl
   have HRN := Lib.hid hn
   replace HL := Lib.hid (hl)
   clear hl hn
   unfold krowV
   simp only
   obtain ⟨w22, g22, hw_w22, hg_g22, hb_w22, hk_g22, hs_w22⟩ := alloc_all w21 (.cells #[.int .i64 rt, .int .i64 ro, .bool rd, .int .i64 rm, .slice ra rn rc] 41)
   replace HL := Lib.hid (HL.out.alloc hb_w22 (by omega) hk_g22)
   clear hb_w22 hk_g22 hs_w22
   have hbx := (HL.out.box _ (List.mem_cons_self ..)).1
   simp only at hbx
   have HRW := Lib.hid (HL.out.row _ (List.mem_cons_self ..)).1
   simp only at HRW
   by_cases hin : k < b
   ·skip
    obtain ⟨q1, q2⟩ := clk_in HB.out hin
    rw [<- HKE.out] at q1
    rw [<- HRR.out] at q2
    simp only at q2
    subst q1 q2
    have c1 : (k : Int) < (b : Int) := by omega
    have c2 : decide ((k : Int) >= (b : Int)) = false := decide_eq_false (by omega)
    have c3 : decide (b <= k) = false := decide_eq_false (by omega)
    have x0 := BlockIs.of hbx 0 (.int .i64 (1099511627776 - (b : Int) + (k : Int))) rfl
    have s3 : IntKind.i64.wrap (1099511627776 - (b : Int) + (k : Int)) = 1099511627776 - (b : Int) + (k : Int) := by rw [IntKind.wrap_i64]; omega
    have HL2 := Lib.hid HL.out.norow
    clear hbx HL
    go_wp2_with (first | (go_at_call 17; refine (num_any _ _).mono ?_; rintro e w' ⟨rfl, hw⟩; subst w') | (rw [<- hw_w22, <- hg_g22]; clear hw_w22 hg_g22) | fail)
    go_roundw
    case rel => exact ⟨k + 1, G2, by omega, by go_num, Lib.hid (by rw [HST.out]; have := HL2.out.nobox; exact (show (48 * (k : Int) + 48) = 48 * ((k + 1 : Nat) : Int) by omega) ▸ this)⟩
    case measure => simp [intOf]; omega
   ·skip
    obtain ⟨q1, q2, q3, q4⟩ := clk_out HB.out (show b <= k by omega)
    rw [<- HKE.out] at q1
    rw [<- HRR.out] at q2 q3
    simp only at q2 q3
    injection q2 with z0 z1 z2 z3 z4
    subst q1 z0 z1 z2 z3 z4 q3
    obtain rfl : rn = 0 := HRN.out
    have c1 : ¬ (k : Int) < (b : Int) := by omega
    have c2 : decide ((k : Int) >= (b : Int)) = true := decide_eq_true (by omega)
    have c3 : decide (b <= k) = true := decide_eq_true (by omega)
    have x0 := BlockIs.of hbx 0 (.int .i64 0) rfl
    have x1 := BlockIs.of hbx 1 (.int .i64 0) rfl
    have x2 := BlockIs.of hbx 2 (.bool false) rfl
    have x3 := BlockIs.of hbx 3 (.int .i64 0) rfl
    have x4 := BlockIs.of hbx 4 (.slice ra 0 rc) rfl
    have HNW := Lib.hid q4
    clear hbx q4
    go_wp2_with (first | (go_at_call 17; refine (num_any _ _).mono ?_; rintro e w' ⟨rfl, hw⟩; subst w') | (rw [<- hw_w22, <- hg_g22]; clear hw_w22 hg_g22) | fail)
    refine (sameRow_any ⟨0, 0, false, 0, []⟩ _ _ _ (EvRow.events HRW.out (by decide)) (slice0 _ _ _ _)).mono ?_
    rintro e w41 ⟨rfl, hb⟩
    replace HL := Lib.hid (HL.out.grow hb)
    clear hb x0 x1 x2 x3 x4
    go_wp2_with (first | (go_at_call 17; refine (num_any _ _).mono ?_; rintro e w' ⟨rfl, hw⟩; subst w') | fail)
    refine (HL.out.callNow).mono ?_
    rw [HNW.out]
    rintro e w' ⟨rfl, hw⟩
    subst w'
    go_wp2_with (first | (go_at_call 17; refine (num_any _ _).mono ?_; rintro e w' ⟨rfl, hw⟩; subst w') | fail)
    go_roundw
    case rel => exact ⟨k + 1, G2, by omega, by go_num, Lib.hid (by rw [HST.out]; have := HL.out.nobox.norow; exact (show (48 * (k : Int) + 48) = 48 * ((k + 1 : Nat) : Int) by omega) ▸ this)⟩
    case measure => simp [intOf]; omega
  ·have hx : ¬ (k : Int) < (b : Int) + 3 := by omega
   go_wp2_with fail
   go_ret
   exact ⟨rfl, HL.out.below⟩
end Go.Proofs.YtooeeiiiflfckaaGreat
