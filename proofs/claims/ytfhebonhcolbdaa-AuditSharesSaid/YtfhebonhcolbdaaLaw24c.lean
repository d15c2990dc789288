/- The law AuditShares: how many rows each part owns. -/
import Derived.Test.YtfhebonhcolbdaaLaw24a
set_option linter.unusedVariables false
set_option linter.unusedSimpArgs false
namespace Go.Proofs.Ytfhebonhcolbdaa
open Go.RowKit

theorem sharesOf_len (c : Config) (rs : List Row) : (sharesOf c rs).length = c.parts.length := by simp [sharesOf]
theorem sharesOf_get (c : Config) (rs : List Row) (p : Nat) (h : p < (sharesOf c rs).length) : (sharesOf c rs)[p] = ((ownsN rs (p : Int) : Nat) : Int) := by simp [sharesOf]

set_option maxRecDepth 100000 in
set_option maxHeartbeats 1600000 in
theorem auditShares_any (c : Config) (v : Value) (rs : List Row) (rv : Value) (w : World) (hc : CfgV w v c) (hr : RowsV w rv rs) :
    Calls Try.prog 6 #[v, rv] w fun e w' => e = .returned (.bool true) ∧ Below w.heap.size w w' := by
  obtain ⟨pv, wv, ov, rfl, hcfg⟩ := hc
  obtain ⟨pa, pk, wa, wk, oa, ok, rfl, rfl, rfl⟩ := hcfg.shape
  have HB0 := Lib.hid (balloc w (.cells #[.int .i64 c.frame, .int .i64 c.quiet, .slice pa c.parts.length pk, .slice wa c.windows.length wk, .slice oa c.ports.length ok] 26))
  have HC0 := Lib.hid (cfg_box w c _ _ _ 26 hcfg)
  have HR0 := Lib.hid (hr.ext (Ext.alloc w (.cells #[.int .i64 c.frame, .int .i64 c.quiet, .slice pa c.parts.length pk, .slice wa c.windows.length wk, .slice oa c.ports.length ok] 26)))
  obtain ⟨ra, rc, rfl, r2, r3, r4, -⟩ := hr
  have rl : rs.length ≤ 1000000000000000 := by omega
  have lp0 : c.parts.length ≤ 1000000000000000 := by
    obtain ⟨_, _, e, p2, -⟩ := hcfg.parts
    omega
  obtain ⟨g, hg⟩ : ∃ g, g = w.heap.size := ⟨_, rfl⟩
  rw [← hg] at HC0
  have HG := Lib.hid hg
  clear hcfg hg
  go_enter Try.func6, Try.ntmps6
  go_wp2_with fail
  rw [← HG.out]
  refine (awake24_any _).mono ?_
  rintro e w1 ⟨rfl, hb1⟩
  have HB1 := Lib.hid (bthen HB0.out hb1)
  have HC1 := Lib.hid (HC0.out.ext (Ext.below hb1))
  have HR1 := Lib.hid (HR0.out.ext (Ext.below hb1))
  clear hb1 HB0 HC0 HR0
  have z0 := HC1.out.c0; have z1 := HC1.out.c1; have z2 := HC1.out.c2; have z3 := HC1.out.c3; have z4 := HC1.out.c4; unfold IntAt at z0 z1
  go_wp2_with fail
  refine (shares_any c _ _ rs _ ⟨_, _, _, rfl, HC1.out.is⟩ HR1.out).mono ?_
  rintro e w2 ⟨u, rfl, hu, -, hb2⟩
  have HB2 := Lib.hid (bthen HB1.out hb2)
  have HC2 := Lib.hid (HC1.out.ext (Ext.below hb2))
  have HR2 := Lib.hid (HR1.out.ext (Ext.below hb2))
  clear hb2 HB1 HC1 HR1 z0 z1 z2 z3 z4
  obtain ⟨ua, uc, rfl, u2, u3, u4, u5⟩ := hu
  cases hm : rowsMay c rs with
  | false =>
    have e1 : sharesErr c rs = 2400 := by unfold sharesErr; rw [if_neg (by rw [hm]; simp)]
    have e2 : sharesAns c rs = [] := by unfold sharesAns; rw [if_neg (by rw [hm]; simp)]
    rw [e1, e2]
    clear hm e1 e2 u5 u2 u3
    go_wp2_with (first | (go_at_call 11; refine (num_any _ _).mono ?_; rintro e w' ⟨rfl, hw⟩; subst w') | fail)
    go_ret
    exact ⟨rfl, HB2.out⟩
  | true =>
    have e1 : sharesErr c rs = 0 := by unfold sharesErr; rw [if_pos hm]
    have e2 : sharesAns c rs = sharesOf c rs := by unfold sharesAns; rw [if_pos hm]
    have e3 := sharesOf_len c rs
    rw [e1]
    rw [e2] at u2 u3 u5 ⊢
    have HU := Lib.hid u5
    have lp : c.parts.length ≤ 8 := by
      unfold rowsMay at hm
      simp only [Bool.and_eq_true, decide_eq_true_eq] at hm
      exact (check_ok hm.2).2.2.2.2.2.1
    rw [e3] at u2 u3 ⊢
    have HE3 := Lib.hid e3
    have z2 := HC2.out.c2
    obtain ⟨n, hn⟩ : ∃ n, n = c.parts.length := ⟨_, rfl⟩
    rw [← hn] at z2 lp u2 u3 ⊢
    have HN := Lib.hid hn
    clear hm e1 e2 e3 u5 hn lp0
    go_wp2_with (first | (go_at_call 11; refine (num_any _ _).mono ?_; rintro e w' ⟨rfl, hw⟩; subst w') | fail)
    clear z2
    go_loop [7, 8, 9] (fun i _ _ => ∃ p : Nat, p ≤ n ∧ i = .int .i64 p) (fun i _ _ => n - (intOf i).toNat)
    case atStart => exact ⟨0, by omega, rfl⟩
    case round =>
      obtain ⟨p, hp, rfl⟩ := hrel
      by_cases hpl : p < n
      · go_wp2_with fail
        go_loop [8, 9] (fun m j => ∃ k : Nat, k ≤ rs.length ∧ j = .int .i64 k ∧ m = .int .i64 ((ownsN (rs.take k) (p : Int) : Nat) : Int)) (fun _ j => rs.length - (intOf j).toNat)
        case atStart => exact ⟨0, by omega, rfl, by simp [ownsN]⟩
        case round =>
          obtain ⟨k, hk, rfl, rfl⟩ := hrel
          have hle := ownsN_le (rs.take k) (p : Int)
          have hle2 : (rs.take k).length ≤ k := List.length_take_le _ _
          by_cases hlt : k < rs.length
          · obtain ⟨_, _, he, _, _, _, hcell⟩ := HR2.out
            injection he with he1 he2 he3
            subst he1
            obtain ⟨b, off, rfl, hc1⟩ := hcell (by intro h; rw [h] at hlt; simp at hlt)
            obtain ⟨-, y1, -⟩ := hc1 k hlt
            clear hc1
            unfold IntAt at y1
            have hst := ownsN_take rs k hlt (p : Int)
            obtain ⟨N, hN⟩ : ∃ N, N = ownsN (rs.take k) (p : Int) := ⟨_, rfl⟩
            rw [← hN] at hst hle ⊢
            have hNk : N ≤ k := by omega
            by_cases ho : rs[k].owner = (p : Int)
            · have eo : (rs[k].owner == (p : Int)) = true := by simp [ho]
              have HST : Hid (ownsN (rs.take (k + 1)) (p : Int) = N + 1) := Lib.hid (by rw [hst, if_pos ho])
              clear hcell hst ho hN hle hle2
              go_wp2_with fail
              go_round
              case rel => exact ⟨k + 1, by omega, by go_num, by rw [HST.out]; go_num⟩
              case measure => simp [intOf]; omega
            · have eo : (rs[k].owner == (p : Int)) = false := by simp [ho]
              have HST : Hid (ownsN (rs.take (k + 1)) (p : Int) = N) := Lib.hid (by rw [hst, if_neg ho]; rfl)
              clear hcell hst ho hN hle hle2
              go_wp2_with fail
              go_round
              case rel => exact ⟨k + 1, by omega, by go_num, by rw [HST.out]⟩
              case measure => simp [intOf]; omega
          · obtain rfl : k = rs.length := by omega
            rw [List.take_length] at hle ⊢
            obtain ⟨b, off, rfl, hcell⟩ := HU.out (by intro h; have := HE3.out; rw [h] at this; have := HN.out; simp at *; omega)
            have y := hcell p (by rw [HE3.out, ← HN.out]; exact hpl)
            rw [sharesOf_get, Nat.mul_one] at y
            unfold IntAt at y
            obtain ⟨N, hN⟩ : ∃ N, N = ownsN rs (p : Int) := ⟨_, rfl⟩
            rw [← hN] at y hle ⊢
            clear hcell hN hle2
            go_wp2_with fail
            go_round
            case rel => exact ⟨p + 1, by omega, by go_num⟩
            case measure => simp [intOf]; omega
      · go_wp2_with fail
        go_ret
        exact ⟨rfl, HB2.out⟩
end Go.Proofs.Ytfhebonhcolbdaa
