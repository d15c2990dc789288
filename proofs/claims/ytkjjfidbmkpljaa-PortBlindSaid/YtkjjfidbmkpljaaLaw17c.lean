/- Chapter 17's law PortTwo. -/
import Derived.Test.YtkjjfidbmkpljaaLaw17b
set_option linter.unusedVariables false
set_option linter.unusedSimpArgs false
namespace Go.Proofs.Ytkjjfidbmkpljaa
open Go.RowKit

abbrev tQ : Port := ⟨1, 0, 1, 3⟩
abbrev tS : Port := ⟨0, 0, 1, 1⟩
def tP (k : Nat) : Port := if k = 1 then tS else tQ
/-- Three ports of which one alone has been written. -/
def TS (k : Nat) (q : List Int) : PSt := match k with
  | 0 => [(tQ, q), (tS, []), (tQ, [])]
  | 1 => [(tQ, []), (tS, q), (tQ, [])]
  | _ => [(tQ, []), (tS, []), (tQ, q)]
theorem ts_nil (k : Nat) : TS k [] = [(tQ, []), (tS, []), (tQ, [])] := by unfold TS; split <;> rfl
theorem ts_three {k : Nat} (hk : k < 3) : k = 0 ∨ k = 1 ∨ k = 2 := by omega
theorem ts_err {k : Nat} (hk : k < 3) (q : List Int) (x : Int) (h0 : 0 ≤ x) (h1 : x < 65536) : wErr (TS k q) 0 (k : Int) x = 0 := by
  unfold wErr
  rcases ts_three hk with rfl | rfl | rfl <;> (rw [if_neg (by simp [TS]; omega)]; rfl)
theorem ts_st {k : Nat} (hk : k < 3) (q : List Int) (x : Int) (h0 : 0 ≤ x) (h1 : x < 65536) : wSt (TS k q) 0 (k : Int) x = TS k (putP (tP k, q) x) := by
  unfold wSt
  rw [if_pos (ts_err hk q x h0 h1)]
  rcases ts_three hk with rfl | rfl | rfl <;> rfl
theorem ts_len {k : Nat} (hk : k < 3) (q : List Int) : (TS k q).length = 3 := by
  rcases ts_three hk with rfl | rfl | rfl <;> rfl
theorem ts_gets {k : Nat} (hk : k < 3) (q : List Int) {j : Nat} (hj : j < 3) : (getsS (TS k q) 1)[j]? = some (if j = k then q.headD 0 else 0) := by
  rcases ts_three hk with rfl | rfl | rfl <;> rcases ts_three hj with rfl | rfl | rfl <;> rfl
theorem ts_glen {k : Nat} (hk : k < 3) (q : List Int) : (getsS (TS k q) 1).length = 3 := by unfold getsS; rw [List.length_map]; exact ts_len hk q
theorem ts_take {k : Nat} (hk : k < 3) (q : List Int) {j : Nat} (hj : j < 3) (hne : j ≠ k) : tErr (TS k q) 1 (j : Int) = 0 ∧ tVal (TS k q) 1 (j : Int) = 0 ∧ tIs (TS k q) 1 (j : Int) = false := by
  rcases ts_three hk with rfl | rfl | rfl <;> rcases ts_three hj with rfl | rfl | rfl <;> first | exact absurd rfl hne | exact ⟨rfl, rfl, rfl⟩
theorem i64_and65535 (x : Int) : bits .and .i64 x 65535 = x % 65536 := by simpa using i64_mask 16 (by decide) x
theorem slice3 {α : Type} {P : World → Nat → Nat → α → Prop} {k B : Nat} {w : World} {b : Nat} {x y z : α} (hB : B ≤ 100) (h0 : P w b 0 x) (h1 : P w b k y) (h2 : P w b (2 * k) z) : SliceAt P k B w (.slice (some ⟨b, 0, none⟩) 3 3) [x, y, z] := by
  refine ⟨_, 3, rfl, by simp; omega, by simp, by simp [maxLen], fun _ => ⟨b, 0, rfl, fun i hi => ?_⟩⟩
  match i, hi with
  | 0, _ => simpa using h0
  | 1, _ => simpa using h1
  | 2, _ => simpa using h2
theorem mod_u64x (z : Int) (n : Nat) (hn : 0 < n) : ∃ m : Nat, (IntKind.u64.wrap z).tmod (n : Int) = (m : Int) ∧ m < n := by
  obtain ⟨q, hq⟩ := Int.eq_ofNat_of_zero_le (show 0 ≤ IntKind.u64.wrap z by rw [IntKind.wrap_u64]; omega)
  rw [hq]
  exact ⟨q % n, by rw [Int.tmod_eq_emod_of_nonneg (by omega)]; rfl, Nat.mod_lt _ hn⟩
set_option maxRecDepth 100000 in
set_option maxHeartbeats 16000000 in
theorem portTwo_any (xs : List Int) (v : Value) (wh : Int) (w : World) (hv : IntsV w v xs) :
    Calls Try.prog 7 #[v, .int .i64 wh] w fun e w' => e = .returned (.bool true) ∧ Below w.heap.size w w' := by
  obtain ⟨a, cap, rfl, hsm, -, -, -⟩ := id hv
  have HV := Lib.hid hv
  obtain ⟨k, hk0, hk⟩ := mod_u64x wh 3 (by decide)
  rw [show ((3 : Nat) : Int) = 3 from rfl] at hk0
  clear hv
  go_enter Try.func7, Try.ntmps7
  go_wp2_with fail
  refine (awake17 _).mono ?_
  rintro e w0 ⟨rfl, hb⟩
  have HB0 := Lib.hid hb
  clear hb
  go_wp2_with fail
  refine (plainAt17_any _).mono ?_
  rintro e w1 ⟨b, rfl, hbw, hpl, hb⟩
  have hpb := PlainB.of hpl
  have hlt6 := hpb.lt
  have HB1 := Lib.hid (bthen HB0.out hb)
  obtain ⟨w2, hw_w2⟩ : ∃ w2, w2 = w1.alloc (.cells #[.int .i64 10, .int .i64 2, plainPs b, plainWs b, .slice (some ⟨w1.heap.size + 1, 0, none⟩) 3 3] 26) := ⟨_, rfl⟩
  obtain ⟨ga, hg_ga⟩ : ∃ ga, ga = w1.heap.size := ⟨_, rfl⟩
  have hb_w2 : Below w1.heap.size w1 w2 := by rw [hw_w2]; exact balloc _ _
  have hk_ga : w2.heap[ga]? = some (.cells #[.int .i64 10, .int .i64 2, plainPs b, plainWs b, .slice (some ⟨w1.heap.size + 1, 0, none⟩) 3 3] 26 (0, 0)) := by rw [hw_w2, hg_ga]; exact blk_new _ _
  have hs_w2 : w2.heap.size = w1.heap.size + 1 := by rw [hw_w2]; simp
  obtain ⟨w3, hw_w3⟩ : ∃ w3, w3 = w2.alloc (.cells #[.int .i64 1, .int .i64 0, .int .i64 1, .int .i64 3, .int .i64 0, .int .i64 0, .int .i64 1, .int .i64 1, .int .i64 1, .int .i64 0, .int .i64 1, .int .i64 3] 56) := ⟨_, rfl⟩
  obtain ⟨gp, hg_gp⟩ : ∃ gp, gp = w2.heap.size := ⟨_, rfl⟩
  have hb_w3 : Below w2.heap.size w2 w3 := by rw [hw_w3]; exact balloc _ _
  have hk_gp : w3.heap[gp]? = some (.cells #[.int .i64 1, .int .i64 0, .int .i64 1, .int .i64 3, .int .i64 0, .int .i64 0, .int .i64 1, .int .i64 1, .int .i64 1, .int .i64 0, .int .i64 1, .int .i64 3] 56 (0, 0)) := by rw [hw_w3, hg_gp]; exact blk_new _ _
  have hs_w3 : w3.heap.size = w2.heap.size + 1 := by rw [hw_w3]; simp
  have hgp : gp = w1.heap.size + 1 := by rw [hg_gp, hs_w2]
  have hp3 := hpb.keep (bthen hb_w2 hb_w3)
  have hps : PortsV w3 (.slice (some ⟨w1.heap.size + 1, 0, none⟩) 3 3) [tQ, tS, tQ] := by
    rw [← hgp]
    exact slice3 (by decide) ⟨BlockIs.of hk_gp 0 _ rfl, BlockIs.of hk_gp 1 _ rfl, BlockIs.of hk_gp 2 _ rfl, BlockIs.of hk_gp 3 _ rfl⟩ ⟨BlockIs.of hk_gp 4 _ rfl, BlockIs.of hk_gp 5 _ rfl, BlockIs.of hk_gp 6 _ rfl, BlockIs.of hk_gp 7 _ rfl⟩ ⟨BlockIs.of hk_gp 8 _ rfl, BlockIs.of hk_gp 9 _ rfl, BlockIs.of hk_gp 10 _ rfl, BlockIs.of hk_gp 11 _ rfl⟩
  have hci := hp3.is 10 2
  have HCF := Lib.hid (show CfgV w3 (.agg #[.int .i64 10, .int .i64 2, plainPs b, plainWs b, .slice (some ⟨w1.heap.size + 1, 0, none⟩) 3 3]) ⟨10, 2, [⟨1, [plT1], [plI1, plI2]⟩, ⟨0, [plT3], []⟩], [plW1, plW2], [tQ, tS, tQ]⟩ from ⟨_, _, _, rfl, ⟨hci.parts, hci.windows, hps⟩⟩)
  have HB3 := Lib.hid (bthen HB1.out (bthen hb_w2 hb_w3))
  clear hb hpl hpb hp3 hps hci hb_w2 hb_w3 hs_w2 hs_w3 hk_ga hk_gp hbw hgp hg_gp hg_ga
  go_wp2_with fail
  rw [← hw_w2, ← hw_w3]
  clear hw_w2 hw_w3 hlt6
  refine (ports_make _ _ _ HCF.out (by decide)).mono ?_
  rintro e w4 ⟨pb, rfl, hp, hb⟩
  have HP4 := Lib.hid (show PortsIs w4 pb w3.heap.size w4.heap.size (TS k []) by rw [ts_nil]; exact hp)
  have HB4 := Lib.hid (bthen HB3.out hb)
  have HLO := Lib.hid HB3.out.size
  obtain ⟨lo, hlo⟩ : ∃ lo, lo = w3.heap.size := ⟨_, rfl⟩
  obtain ⟨hi, hhi⟩ : ∃ hi, hi = w4.heap.size := ⟨_, rfl⟩
  rw [← hlo] at HP4 HLO
  rw [← hhi] at HP4
  clear hp hb hlo hhi HCF
  go_wp2_with (first | (go_at_call 11; refine (num_any _ _).mono ?_; rintro e w' ⟨rfl, hw⟩; subst w') | fail)
  refine (ports_outs pb lo hi _ 0 _ HP4.out (by rw [ts_len hk]; decide)).mono ?_
  rw [ts_nil, show outsS [(tQ, []), (tS, []), (tQ, [])] 0 = 7 by decide +kernel]
  rintro e w5 ⟨rfl, hb⟩
  have HP5 := Lib.hid (HP4.out.keep hb)
  have HB5 := Lib.hid (bthen HB4.out hb)
  have hw1 : IntKind.i64.wrap (k : Int) = (k : Int) := by rw [IntKind.wrap_i64]; omega
  have hw2 : IntKind.u64.wrap (k : Int) = (k : Int) := by rw [IntKind.wrap_u64]; omega
  clear hb
  go_wp2_with fail
  obtain ⟨J, hJ⟩ : ∃ J, J = (k + 1) % 3 := ⟨_, rfl⟩
  have hJ3 : J < 3 := by omega
  have hJk : J ≠ k := by omega
  have j1 : IntKind.i64.wrap ((k : Int) + 1) = (k : Int) + 1 := by rw [IntKind.wrap_i64]; omega
  have j2 : ((k : Int) + 1).tmod 3 = (J : Int) := by rw [Int.tmod_eq_emod_of_nonneg (by omega), hJ]; omega
  have j3 : IntKind.i64.wrap (J : Int) = (J : Int) := by rw [IntKind.wrap_i64]; omega
  clear hJ
  go_loopw [9] (fun a wr => ∃ (i : Nat) (q : List Int), i ≤ xs.length ∧ i ≤ 20 ∧ a = .int .i64 i ∧ Hid (PortsIs wr pb lo hi (TS k q)) ∧ Hid (Below w.heap.size w wr)) (fun a _ => 20 - (intOf a).toNat)
  case atStart => exact ⟨0, [], by omega, by omega, rfl, HP5, HB5⟩
  case round =>
    obtain ⟨i, q, hi', hi20, rfl, HP, HBW⟩ := hrel
    by_cases hlt : i < xs.length
    · by_cases h20 : i < 20
      · have c1 : (i : Int) < 20 := by omega
        obtain ⟨x, hx⟩ : ∃ x, x = bits BinOp.and IntKind.i64 xs[i] 65535 := ⟨_, rfl⟩
        have hx0 : 0 ≤ x ∧ x < 65536 := by rw [hx, i64_and65535]; omega
        obtain ⟨G0, hG0⟩ : ∃ G0, G0 = getsS (TS k q) 1 := ⟨_, rfl⟩
        have hg0l : G0.length = 3 := by rw [hG0]; exact ts_glen hk q
        obtain ⟨q', hq'⟩ : ∃ q', q' = putP (tP k, q) x := ⟨_, rfl⟩
        obtain ⟨G1, hG1⟩ : ∃ G1, G1 = getsS (TS k q') 1 := ⟨_, rfl⟩
        have hg1l : G1.length = 3 := by rw [hG1]; exact ts_glen hk q'
        have HG := Lib.hid (show (∀ j, j < 3 → j ≠ k → G0[j]? = some 0 ∧ G1[j]? = some 0) ∧ (k = 1 → G1[1]? = some x) from by
          refine ⟨fun j hj hjk => ⟨?_, ?_⟩, fun h1 => ?_⟩
          · rw [hG0, ts_gets hk q hj, if_neg hjk]
          · rw [hG1, ts_gets hk q' hj, if_neg hjk]
          · rw [hG1, ts_gets hk q' (by omega), if_pos h1.symm, hq']
            unfold putP tP
            rw [if_pos h1]
            rfl)
        go_wp2_with fail
        refine (ports_gets pb lo hi _ 1 _ HP.out (by rw [ts_len hk]; decide)).mono ?_
        rw [← hG0]
        rintro e w6 ⟨va, rfl, hg, hb⟩
        have HP6 := Lib.hid (HP.out.keep hb)
        have HB6 := Lib.hid (bthen HBW.out hb)
        have HBA := Lib.hid (show hi ≤ wr.heap.size by obtain ⟨Ls, h1, h2⟩ := HP.out; exact h1.hi2)
        have HA6 := Lib.hid hg
        obtain ⟨bw, off, cp, e, hy⟩ := HV.out.get hlt
        injection e with e _ e3
        subst e
        subst e3
        have hy := IntAt.ext (Ext.below HB6.out) hy
        unfold IntAt at hy
        clear hg hb
        go_wp2_with fail
        rw [← hx]
        refine (ports_write pb lo hi _ 0 (k : Int) x _ HP6.out).mono ?_
        rw [ts_err hk q x hx0.1 hx0.2, ts_st hk q x hx0.1 hx0.2, ← hq']
        rintro e w7 ⟨rfl, hp, hkk⟩
        obtain ⟨dr, hdr⟩ : ∃ dr, dr = wDrop (TS k q) 0 (k : Int) x := ⟨_, rfl⟩
        rw [← hdr]
        have HP7 := Lib.hid hp
        have HB7 := Lib.hid (HB6.out.trans (between_below hkk HB6.out.size HLO.out))
        have HA7 := Lib.hid (show IntRow w7 wr.heap.size va G0 from Keeps.own HA6.out hkk (fun g hg hf => by have := (HA6.out.lt g hg).1; have := HBA.out; have := hf.2; omega))
        clear hp hkk hdr hy
        go_wp2_with fail
        refine (ports_gets pb lo hi _ 1 _ HP7.out (by rw [ts_len hk]; decide)).mono ?_
        rw [← hG1]
        rintro e w8 ⟨vc, rfl, hg, hb⟩
        have HP8 := Lib.hid (HP7.out.keep hb)
        have HB8 := Lib.hid (bthen HB7.out hb)
        have HA8 := Lib.hid (IntRow.ints (show IntRow w8 wr.heap.size va G0 from Below.kept HA7.out hb) (by omega))
        have HC8 := Lib.hid (IntRow.ints hg (by omega))
        have HX := Lib.hid hx
        obtain ⟨aa, ac, rfl, -, -, -, -⟩ := id HA8.out
        obtain ⟨ca, cc, rfl, -, -, -, -⟩ := id HC8.out
        have HV8 := Lib.hid (HV.out.ext (Ext.below HB8.out))
        clear hg hb hx hx0 hG0 hq' hG1
        rw [hg0l, hg1l]
        go_wp2_with (first | (go_at_call 11; refine (num_any _ _).mono ?_; rintro e w' ⟨rfl, hw⟩; subst w') | fail)
        go_loopw [14] (fun a wr => ∃ j : Nat, j ≤ 3 ∧ a = .int .i64 j ∧ Hid (Below w8.heap.size w8 wr)) (fun a _ => 3 - (intOf a).toNat)
        case atStart => exact ⟨0, by omega, rfl, Lib.hid (Below.refl _ _)⟩
        case round =>
          obtain ⟨j, hj, rfl, HBJ⟩ := hrel
          by_cases hj3 : j < 3
          · have d1 : (j : Int) < 3 := by omega
            by_cases hjk : j = k
            · have e1 : ((j : Int) != (k : Int)) = false := by subst hjk; simp
              clear hjk
              go_wp2_with fail
              go_quiet (fail)
              go_wp2_with fail
              go_roundw
              case rel => exact ⟨j + 1, by omega, by go_num, Lib.hid (below_drewN HBJ.out _)⟩
              case measure => simp [intOf]; omega
            · have e1 : ((j : Int) != (k : Int)) = true := by simp; omega
              have hgj := HG.out.1 j hj3 hjk
              obtain ⟨b1, o1, c1', e, y1⟩ := (HA8.out.ext (Ext.below HBJ.out)).get (k := j) (by omega)
              rw [hg0l] at e
              injection e with e _ e3
              subst e
              subst e3
              obtain ⟨b2, o2, c2', e, y2⟩ := (HC8.out.ext (Ext.below HBJ.out)).get (k := j) (by omega)
              rw [hg1l] at e
              injection e with e _ e3
              subst e
              subst e3
              have g0 : G0[j]'(by omega) = 0 := by have := hgj.1; rw [List.getElem?_eq_getElem (by omega)] at this; injection this
              have g1 : G1[j]'(by omega) = 0 := by have := hgj.2; rw [List.getElem?_eq_getElem (by omega)] at this; injection this
              unfold IntAt at y1 y2
              rw [g0] at y1
              rw [g1] at y2
              clear hgj g0 g1 hjk
              go_wp2_with fail
              go_quiet (fail)
              go_wp2_with fail
              go_roundw
              case rel => exact ⟨j + 1, by omega, by go_num, Lib.hid (below_drewN HBJ.out _)⟩
              case measure => simp [intOf]; omega
          · obtain rfl : j = 3 := by omega
            have HPj := Lib.hid (HP8.out.keep HBJ.out)
            have HBj := Lib.hid (bthen HB8.out HBJ.out)
            by_cases hk1 : k = 1
            · have e1 : ((k : Int) == 1) = true := by subst hk1; rfl
              have g1 : G1[1]'(by omega) = x := by have := HG.out.2 hk1; rw [List.getElem?_eq_getElem (by omega)] at this; injection this
              obtain ⟨b2, o2, c2', e, y2⟩ := (HC8.out.ext (Ext.below HBJ.out)).get (k := 1) (by omega)
              rw [hg1l] at e
              injection e with e _ e3
              subst e
              subst e3
              obtain ⟨b3, o3, c3', e, y3⟩ := (HV8.out.ext (Ext.below HBJ.out)).get hlt
              injection e with e _ e3
              injection e with e
              injection e with e4 e5
              subst e4
              subst e5
              subst e3
              unfold IntAt at y2 y3
              rw [g1] at y2
              have hxx : bits BinOp.and IntKind.i64 xs[i] 65535 = x := HX.out.symm
              clear g1 hk1
              go_wp2_with fail
              go_quiet (fail)
              go_wp2_with fail
              go_roundw
              case rel => exact ⟨i + 1, q', by omega, by omega, by go_num, Lib.hid (HPj.out.keep (below_drewN (Below.refl _ _) _)), Lib.hid (below_drewN HBj.out _)⟩
              case measure => simp [intOf]; omega
            · have e1 : ((k : Int) == 1) = false := by rw [beq_eq_false_iff_ne]; omega
              clear hk1
              go_wp2_with fail
              go_quiet (fail)
              go_wp2_with fail
              go_roundw
              case rel => exact ⟨i + 1, q', by omega, by omega, by go_num, Lib.hid (HPj.out.keep (below_drewN (Below.refl _ _) _)), Lib.hid (below_drewN HBj.out _)⟩
              case measure => simp [intOf]; omega
      · obtain rfl : i = 20 := by omega
        have c1 : (20 : Int) < (xs.length : Int) := by omega
        go_wp2_with fail
        refine (ports_take pb lo hi (TS k q) 1 (J : Int) _ HP.out).mono ?_
        rw [(ts_take hk q hJ3 hJk).1, (ts_take hk q hJ3 hJk).2.1, (ts_take hk q hJ3 hJk).2.2]
        rintro e w9 ⟨rfl, hp, hkk⟩
        have HB9 := Lib.hid (HBW.out.trans (between_below hkk HBW.out.size HLO.out))
        clear hp hkk
        go_wp2_with (first | (go_at_call 11; refine (num_any _ _).mono ?_; rintro e w' ⟨rfl, hw⟩; subst w') | fail)
        go_ret
        exact ⟨rfl, HB9.out⟩
    · obtain rfl : i = xs.length := by omega
      go_wp2_with fail
      refine (ports_take pb lo hi (TS k q) 1 (J : Int) _ HP.out).mono ?_
      rw [(ts_take hk q hJ3 hJk).1, (ts_take hk q hJ3 hJk).2.1, (ts_take hk q hJ3 hJk).2.2]
      rintro e w9 ⟨rfl, hp, hkk⟩
      have HB9 := Lib.hid (HBW.out.trans (between_below hkk HBW.out.size HLO.out))
      clear hp hkk
      go_wp2_with (first | (go_at_call 11; refine (num_any _ _).mono ?_; rintro e w' ⟨rfl, hw⟩; subst w') | fail)
      go_ret
      exact ⟨rfl, HB9.out⟩
end Go.Proofs.Ytkjjfidbmkpljaa
