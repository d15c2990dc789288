/- The law FrameCounts: a part's share is the ticks of a frame that are its, and frames repeat. -/
import Derived.Test.YtgpefejghhgnmaaLaw6a
import Derived.Test.YtgpefejghhgnmaaCw
set_option linter.unusedVariables false
set_option linter.unusedSimpArgs false
namespace Go.Proofs.Ytgpefejghhgnmaa
open Go.RowKit

theorem at_ok (c : Config) (F n : Nat) (hk : checkCfg c = 0) (hn : n ≤ 1099511627776) (hF : c.frame = F) : atSpec c (n : Int) = (ownerAt ((n : Int) % (F : Int)) c.windows, 0) := by
  unfold atSpec
  rw [if_neg (by omega), hF]
theorem owner_bd (c : Config) (t : Int) (hk : checkCfg c = 0) : -1 ≤ ownerAt t c.windows ∧ ownerAt t c.windows < c.parts.length := by
  have ho := check_ok hk
  have hall := winsFrom_all _ _ _ _ ho.2.2.2.2.2.2.2
  have : ∀ ws : List Window, (∀ x ∈ ws, 0 ≤ x.part ∧ x.part < c.parts.length) → -1 ≤ ownerAt t ws ∧ ownerAt t ws < c.parts.length := by
    intro ws
    induction ws with
    | nil => intro _; show (-1 : Int) ≤ -1 ∧ (-1 : Int) < _; omega
    | cons x r ih =>
      intro h
      have h1 := h x (by simp)
      have h2 := ih (fun y hy => h y (by simp [hy]))
      unfold ownerAt
      split <;> omega
  exact this c.windows (fun x hx => by have := hall x hx; omega)
theorem cnt_succ (c : Config) (p : Int) (n : Nat) : cnt c p (n + 1) = cnt c p n + if ownerAt ((n : Int) % c.frame) c.windows = p then 1 else 0 := rfl
theorem cnt_bound (c : Config) (p : Int) (n : Nat) : 0 ≤ cnt c p n ∧ cnt c p n ≤ n := by
  induction n with
  | zero => exact ⟨Int.le_refl _, Int.le_refl _⟩
  | succ n ih =>
    rw [cnt_succ]
    split <;> omega
theorem Ext.set_new {w W : World} (h : Ext w W) {q : Nat} (hq : w.heap.size ≤ q) (j : Nat) (v : Value) : Ext w (W.setCell ⟨q, j, none⟩ v) := by
  intro a u hu
  rw [World.cell?_setCell_other _ _ _ _ (by
    have := cell_lt hu
    rintro rfl
    simp at this
    omega)]
  exact h a u hu

set_option maxRecDepth 100000 in
set_option maxHeartbeats 1600000 in
theorem frameCounts_any (c : Config) (v : Value) (t : Int) (w : World) (hc : CfgV w v c) :
    Calls Try.prog 4 #[v, .int .i64 t] w fun e w' => e = .returned (.bool true) ∧ Below w.heap.size w w' := by
  obtain ⟨pv, wv, ov, rfl, hcfg⟩ := hc
  obtain ⟨pa, pk, wa, wk, oa, ok, rfl, rfl, rfl⟩ := hcfg.shape
  have HB0 := Lib.hid (balloc w (.cells #[.int .i64 c.frame, .int .i64 c.quiet, .slice pa c.parts.length pk, .slice wa c.windows.length wk, .slice oa c.ports.length ok] 26))
  have HC0 := Lib.hid (cfg_box w c _ _ _ 26 hcfg)
  obtain ⟨m, hm0⟩ := Int.eq_ofNat_of_zero_le (show 0 ≤ bits BinOp.and IntKind.i64 t 1048575 by rw [i64_and1048575]; omega)
  have hm1 : m ≤ 1048575 := by have := i64_and1048575 t; omega
  obtain ⟨g, hg⟩ : ∃ g, g = w.heap.size := ⟨_, rfl⟩
  have hg0 : g ≤ w.heap.size := by omega
  rw [← hg] at HC0
  have HG := Lib.hid hg
  clear hcfg hg
  go_enter Try.func4, Try.ntmps4
  go_wp2_with fail
  rw [← HG.out]
  refine (awake6_any _).mono ?_
  rintro e w1 ⟨rfl, hb1⟩
  have HB1 := Lib.hid (bthen HB0.out hb1)
  have HC1 := Lib.hid (HC0.out.ext (Ext.below hb1))
  clear hb1 HB0 HC0
  have z0 := HC1.out.c0; have z1 := HC1.out.c1; have z2 := HC1.out.c2; have z3 := HC1.out.c3; have z4 := HC1.out.c4; unfold IntAt at z0 z1
  go_wp2_with fail
  refine (at_any c _ 0 _ ⟨_, _, _, rfl, HC1.out.is⟩).mono ?_
  rintro e w2 ⟨rfl, hb2⟩
  have HB2 := Lib.hid (bthen HB1.out hb2)
  have HC2 := Lib.hid (HC1.out.ext (Ext.below hb2))
  clear hb2 HB1 HC1
  clear z0 z1 z2 z3 z4
  by_cases hk : checkCfg c = 0
  · have ho := check_ok hk
    obtain ⟨F, hF⟩ := Int.eq_ofNat_of_zero_le (show 0 ≤ c.frame by omega)
    have f1 : 1 ≤ F := by omega
    have f2 : F ≤ 256 := by omega
    have lp1 : 1 ≤ c.parts.length := ho.2.2.2.2.1
    have lp : c.parts.length ≤ 8 := ho.2.2.2.2.2.1
    have S0 := at_ok c F 0 hk (by omega) hF
    have hz2 := HC2.out.c0
    unfold IntAt at hz2
    rw [show ((0 : Nat) : Int) = 0 from rfl] at S0
    rw [S0]
    have HK := Lib.hid hk
    have HF := Lib.hid hF
    have hFF := hF
    have fc1 : 1 ≤ c.frame := by omega
    have fc2 : c.frame ≤ 256 := by omega
    clear ho hk hF S0
    go_wp2_with (first | (go_at_call 15; refine (num_any _ _).mono ?_; rintro e w' ⟨rfl, hw⟩; subst w') | fail)
    obtain ⟨q, hq⟩ : ∃ q, q = w2.heap.size := ⟨_, rfl⟩
    have hgq : g < q := by rw [hq]; exact cell_lt hz2
    rw [← hq]
    obtain ⟨wz, hwz⟩ : ∃ wz, wz = w2.alloc (.cells #[.int .i64 0, .int .i64 0, .int .i64 0, .int .i64 0, .int .i64 0, .int .i64 0, .int .i64 0, .int .i64 0] 42) := ⟨_, rfl⟩
    rw [← hwz]
    have hbz : Below w2.heap.size w2 wz := by rw [hwz]; exact balloc _ _
    have hblk : wz.heap[q]? = some (.cells #[.int .i64 0, .int .i64 0, .int .i64 0, .int .i64 0, .int .i64 0, .int .i64 0, .int .i64 0, .int .i64 0] 42 (0, 0)) := by rw [hwz, hq]; exact blk_new _ _
    have hrow : ValRow wz q 8 (fun s => .int .i64 (cnt c s 0)) := ⟨_, _, hblk, rfl, fun s hs => by
      rcases (show s = 0 ∨ s = 1 ∨ s = 2 ∨ s = 3 ∨ s = 4 ∨ s = 5 ∨ s = 6 ∨ s = 7 by omega) with rfl | rfl | rfl | rfl | rfl | rfl | rfl | rfl <;> rfl⟩
    have hqw : w.heap.size ≤ q := by rw [hq]; exact HB2.out.size
    have HR := Lib.hid hrow
    have HBZ := Lib.hid (bthen HB2.out hbz)
    have HEZ := Lib.hid (Ext.below hbz)
    have hq2 : w2.heap.size ≤ q := by omega
    obtain ⟨P, hP⟩ : ∃ P : Nat, F * m = P := ⟨_, rfl⟩
    have hP1 : P ≤ 268435200 := by rw [← hP]; exact Nat.mul_le_mul f2 hm1
    have hPi : c.frame * (m : Int) = (P : Int) := by rw [hFF, ← hP]; simp
    clear hFF
    have HPM := Lib.hid hP
    clear hwz hrow hblk hbz hz2 hq hP
    go_wp2_with fail
    go_loopw [8] (fun i wr => ∃ k : Nat, k ≤ F ∧ i = .int .i64 k ∧ Hid (ValRow wr q 8 (fun s => .int .i64 (cnt c s k))) ∧ Hid (Ext w2 wr) ∧ Below w.heap.size w wr) (fun i _ => F - (intOf i).toNat)
    case atStart => exact ⟨0, by omega, rfl, HR, HEZ, HBZ.out⟩
    case round =>
      obtain ⟨k, hk, rfl, HV, HE, hB⟩ := hrel
      have HB := Lib.hid hB
      have HCr := Lib.hid (HC2.out.ext HE.out)
      have z0 := HCr.out.c0; have z1 := HCr.out.c1; have z2 := HCr.out.c2; have z3 := HCr.out.c3; have z4 := HCr.out.c4; unfold IntAt at z0 z1
      clear hB
      by_cases hlt : k < F
      · have hlc : (k : Int) < c.frame := by have := HF.out; omega
        go_wp2_with fail
        have hS1 := at_ok c F k HK.out (by omega) HF.out
        have hS2 := at_ok c F (k + P) HK.out (by omega) HF.out
        have hmod : ((k + P : Nat) : Int) % (F : Int) = (k : Int) % (F : Int) := by
          rw [← HPM.out, Int.natCast_add, Int.natCast_mul, Int.add_mul_emod_self_left]
        rw [hmod, Int.natCast_add] at hS2
        have hcs : ∀ s : Int, cnt c s (k + 1) = cnt c s k + if ownerAt ((k : Int) % (F : Int)) c.windows = s then 1 else 0 := by
          intro s
          rw [cnt_succ, HF.out]
        have hbd := owner_bd c ((k : Int) % (F : Int)) HK.out
        obtain ⟨o, ho⟩ : ∃ o, o = ownerAt ((k : Int) % (F : Int)) c.windows := ⟨_, rfl⟩
        rw [← ho] at hS1 hS2 hcs hbd
        obtain ⟨o0, o1⟩ := hbd
        have HS1 := Lib.hid hS1
        have HS2 := Lib.hid hS2
        have HCS := Lib.hid hcs
        clear hS1 hS2 hcs hmod ho
        refine (at_any c _ k _ ⟨_, _, _, rfl, HCr.out.is⟩).mono ?_
        rw [HS1.out]
        rintro e w3 ⟨rfl, hb3⟩
        have HC3 := Lib.hid (HCr.out.ext (Ext.below hb3))
        have HB3 := Lib.hid (bthen HB.out hb3)
        have HV3 := Lib.hid (HV.out.below hb3)
        have HE3 := Lib.hid (HE.out.trans (Ext.below hb3))
        clear hb3 HCr HB HV HE z0 z1 z2 z3 z4
        have z0 := HC3.out.c0; have z1 := HC3.out.c1; have z2 := HC3.out.c2; have z3 := HC3.out.c3; have z4 := HC3.out.c4; unfold IntAt at z0 z1
        go_wp2_with fail
        refine (at_any c _ _ _ ⟨_, _, _, rfl, HC3.out.is⟩).mono ?_
        rw [HS2.out]
        rintro e w4 ⟨rfl, hb4⟩
        have HC4 := Lib.hid (HC3.out.ext (Ext.below hb4))
        have HB4 := Lib.hid (bthen HB3.out hb4)
        have HV4 := Lib.hid (HV3.out.below hb4)
        have HE4 := Lib.hid (HE3.out.trans (Ext.below hb4))
        clear hb4 HC3 HB3 HV3 HE3 z0 z1 z2 z3 z4 HS1 HS2
        have z0 := HC4.out.c0; have z1 := HC4.out.c1; have z2 := HC4.out.c2; have z3 := HC4.out.c3; have z4 := HC4.out.c4; unfold IntAt at z0 z1
        by_cases hneg : o < 0
        · obtain rfl : o = -1 := by omega
          go_wp2_with (first | (go_at_call 15; refine (num_any _ _).mono ?_; rintro e w' ⟨rfl, hw⟩; subst w') | fail)
          go_roundw
          case rel => exact ⟨k + 1, by omega, by go_num, Lib.hid (HV4.out.congr (fun s _ => by rw [HCS.out, if_neg (by omega), Int.add_zero])), HE4, HB4.out⟩
          case measure => simp [intOf]; omega
        · obtain ⟨O, rfl⟩ := Int.eq_ofNat_of_zero_le (show 0 ≤ o by omega)
          have r0 := HV4.out.cell O (by omega)
          have r1 := HV4.out.free O
          have hO : O < 8 := by omega
          have hcb := cnt_bound c (O : Int) k
          obtain ⟨cb0, cb1⟩ := hcb
          go_wp2_with (first | (go_at_call 15; refine (num_any _ _).mono ?_; rintro e w' ⟨rfl, hw⟩; subst w') | fail)
          go_roundw
          case rel => exact ⟨k + 1, by omega, by go_num, Lib.hid ((HV4.out.set O _).congr (fun s _ => by
            rw [HCS.out]
            by_cases e : s = O
            · subst e; rw [if_pos rfl, if_pos rfl]
            · rw [if_neg e, if_neg (by omega), Int.add_zero])), Lib.hid (HE4.out.set_new hq2 _ _), HB4.out.setCell (p := ⟨q, O, none⟩) hqw _⟩
          case measure => simp [intOf]; omega
      · obtain rfl : k = F := by omega
        have hlc : c.frame ≤ (k : Int) := by have := HF.out; omega
        go_wp2_with fail
        clear z0 z1 z2 z3 z4
        obtain ⟨wp, rfl⟩ : ∃ wp : World, wp = wr := ⟨_, rfl⟩
        go_loopw [13] (fun i wr => ∃ p : Nat, p ≤ c.parts.length ∧ i = .int .i64 p ∧ Hid (ValRow wr q 8 (fun s => .int .i64 (cnt c s k))) ∧ Hid (Ext w2 wr) ∧ Below w.heap.size w wr) (fun i _ => c.parts.length - (intOf i).toNat)
        case atStart => exact ⟨0, by omega, rfl, HV, HE, HB.out⟩
        case round =>
          obtain ⟨p, hp, rfl, HVp, HEp, hB⟩ := hrel
          have HBp := Lib.hid hB
          have HCp := Lib.hid (HC2.out.ext HEp.out)
          have z0 := HCp.out.c0; have z1 := HCp.out.c1; have z2 := HCp.out.c2; have z3 := HCp.out.c3; have z4 := HCp.out.c4; unfold IntAt at z0 z1
          clear hB
          by_cases hpl : p < c.parts.length
          · have hS : shareSpec c (p : Int) = (cnt c (p : Int) k, 0) := by
              unfold shareSpec
              rw [if_neg (by have := HK.out; omega)]
              have := cnt_share c (p : Int) (by omega) HK.out
              rw [HF.out, Int.toNat_natCast] at this
              rw [this]
            have HS := Lib.hid hS
            clear hS
            go_wp2_with fail
            refine (share_any c _ p _ ⟨_, _, _, rfl, HCp.out.is⟩).mono ?_
            rw [HS.out]
            rintro e w3 ⟨rfl, hb3⟩
            have HB3 := Lib.hid (bthen HBp.out hb3)
            have HV3 := Lib.hid (HVp.out.below hb3)
            have HE3 := Lib.hid (HEp.out.trans (Ext.below hb3))
            have r0 := HV3.out.cell p (by omega)
            have hp8 : p < 8 := by omega
            clear hb3 HCp HBp HVp HEp z0 z1 z2 z3 z4
            go_wp2_with (first | (go_at_call 15; refine (num_any _ _).mono ?_; rintro e w' ⟨rfl, hw⟩; subst w') | fail)
            go_roundw
            case rel => exact ⟨p + 1, by omega, by go_num, HV3, HE3, HB3.out⟩
            case measure => simp [intOf]; omega
          · go_wp2_with fail
            go_ret
            exact ⟨rfl, HBp.out⟩
  · have S0 : atSpec c 0 = (0, 600) := by unfold atSpec; rw [if_pos (Or.inl hk)]
    rw [S0]
    clear hk S0
    go_wp2_with (first | (go_at_call 15; refine (num_any _ _).mono ?_; rintro e w' ⟨rfl, hw⟩; subst w') | fail)
    go_ret
    exact ⟨rfl, HB2.out⟩
end Go.Proofs.Ytgpefejghhgnmaa
