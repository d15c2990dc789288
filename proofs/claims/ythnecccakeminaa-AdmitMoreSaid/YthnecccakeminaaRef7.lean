/- What the reference answers of a part's least supply. -/
import Derived.Test.YthnecccakeminaaRef6
import Derived.Test.YthnecccakeminaaCw
import Derived.Deep.RegionHeld3
set_option linter.unusedVariables false
set_option linter.unusedSimpArgs false
namespace Go.Proofs.Ythnecccakeminaa
open Go.RowKit

theorem leastTo_cap (c : Config) (p : Int) (r n : Nat) (m m' : Int) (h0 : 0 < n) (h1 : cnt c p (0 + r) - cnt c p 0 ≤ m) (h2 : cnt c p (0 + r) - cnt c p 0 ≤ m') : leastTo c p r m n = leastTo c p r m' n := by
  induction n with
  | zero => omega
  | succ n ih =>
    by_cases hn : n = 0
    · subst hn
      simp only [leastTo]
      omega
    · unfold leastTo
      rw [ih (by omega)]

theorem infoInt' : (Try.prog.info? 3).map (fun i => (i.zero, i.size, i.bytes)) = some (some (.int .i64 0), 1, 8) := by kernel_rfl

set_option maxRecDepth 100000 in
set_option maxHeartbeats 3000000 in
theorem refLeast_any (c : Config) (v : Value) (p len : Int) (w : World) (hc : CfgV w v c) (hk : checkCfg c = 0) (hp : 0 ≤ p) (hl0 : 0 ≤ len) (hl1 : len ≤ 4096) :
    Calls Try.prog 31 #[v, .int .i64 p, .int .i64 len] w fun e w' => e = .returned (.int .i64 (len / c.frame * cnt c p c.frame.toNat + leastTo c p (len % c.frame).toNat (cnt c p (len % c.frame).toNat) c.frame.toNat)) ∧ Below w.heap.size w w' := by
  obtain ⟨pv, wv, ov, rfl, hcfg⟩ := hc
  have hok := check_ok hk
  obtain ⟨o1, o2, -⟩ := hok
  obtain ⟨F, hF⟩ := Int.eq_ofNat_of_zero_le (show 0 ≤ c.frame by omega)
  obtain ⟨L, rfl⟩ := Int.eq_ofNat_of_zero_le hl0
  have hFt : c.frame.toNat = F := by rw [hF]; rfl
  have hmod : ((L : Int) % c.frame).toNat = L % F := by rw [hF]; omega
  rw [hFt, hmod]
  have HFT := Lib.hid hFt
  have HCS := Lib.hid (cnt_share c p hp hk)
  rw [hFt] at HCS
  have f1 : 1 ≤ F := by omega
  have f2 : F ≤ 256 := by omega
  have l2 : L ≤ 4096 := by omega
  have hrF : L % F < F := Nat.mod_lt _ (by omega)
  obtain ⟨r, hr⟩ : ∃ r : Nat, L % F = r := ⟨_, rfl⟩
  rw [hr] at hrF ⊢
  have hmi : (L : Int) % (F : Int) = (r : Int) := by rw [← hr]; omega
  have HMI := Lib.hid hmi
  have HF := Lib.hid hF
  have HK := Lib.hid hk
  have HPV := Lib.hid hcfg.shape
  obtain ⟨pa, pk, wa, wk, oa, ok, rfl, rfl, rfl⟩ := hcfg.shape
  have HBX := Lib.hid (balloc w (.cells #[.int .i64 c.frame, .int .i64 c.quiet, .slice pa c.parts.length pk, .slice wa c.windows.length wk, .slice oa c.ports.length ok] 26))
  have hcc := cfg_box w c _ _ _ 26 hcfg
  obtain ⟨wb, hwb⟩ : ∃ wb, wb = w.alloc (.cells #[.int .i64 c.frame, .int .i64 c.quiet, .slice pa c.parts.length pk, .slice wa c.windows.length wk, .slice oa c.ports.length ok] 26) := ⟨_, rfl⟩
  obtain ⟨g, hg⟩ : ∃ g, g = w.heap.size := ⟨_, rfl⟩
  rw [← hwb, ← hg] at hcc
  rw [← hwb] at HBX
  have HC := Lib.hid hcc
  have hgl : w.heap.size + 1 ≤ wb.heap.size := by rw [hwb]; simp
  clear hcc hcfg o1 o2 hFt hmod hF hk hl0 hl1 hr hmi
  go_enter Try.func31, Try.ntmps31
  go_wp2_with fail
  rw [← hwb, ← hg]
  clear hwb
  refine (refOwns_any c _ p _ ⟨_, _, _, rfl, HC.out.is⟩ HK.out hp).mono ?_
  rintro e w1 ⟨q, rfl, hq, hrow, hb1⟩
  rw [HFT.out] at hrow ⊢
  have HB1 := Lib.hid (bthen HBX.out hb1)
  have HC1 := Lib.hid (HC.out.ext (Ext.below hb1))
  have HQ := Lib.hid hrow
  have z0 := HC1.out.c0
  unfold IntAt at z0
  rw [HF.out] at z0
  have hmi := HMI.out
  have hqg : g < q := by omega
  have hq1 : q < w1.heap.size := hrow.lt
  clear hb1 HC HBX hrow hg
  obtain ⟨i0, hi0, hi1, hi2, hi3⟩ := info_parts infoInt'
  have HI := Lib.hid (And.intro hi0 (And.intro hi1 (And.intro hi2 hi3)))
  clear hi0 hi1 hi2 hi3
  go_wp2_with (at_make; refine wpList_make_full w1 rfl (.tmp 23) (.tmp 23) 76 rfl w1.heap.size 3 i0 (.int .i64 0) 1 Try.underlying76 HI.out.1 HI.out.2.1 HI.out.2.2.1 .i64 .i64 (2 * (F : Int) + 1) (2 * (F : Int) + 1) (2 * F + 1) rfl rfl (by omega) (by omega) (by rw [HI.out.2.2.2]; omega) (by unfold maxLen; omega) (Nat.le_refl _) ?_)
  intro w2 hown hgrow
  have HS := Lib.hid (ValRow.made (base := w1.heap.size) (e := 3) (g := w1.heap.size) (n := 2 * F + 1) (z := .int .i64 0) (by rw [Nat.mul_one]; exact hown))
  have HB2 : Below w1.heap.size w1 w2 := (Below.refl _ _).grown hgrow (Nat.le_refl _) (by simp)
  have HB2 := Lib.hid HB2
  clear hown hgrow HI z0
  obtain ⟨s, hs⟩ : ∃ s, s = w1.heap.size := ⟨_, rfl⟩
  rw [← hs] at HS ⊢
  have hsw : w1.heap.size ≤ s := by omega
  have hqs : q ≠ s := by omega
  have hgs : g ≠ s := by omega
  have hqs' : s ≠ q := by omega
  clear hs
  have Z0 : Hid (w1.cell? ⟨g, 0, none⟩ = some (.int .i64 F)) := Lib.hid (by rw [← HF.out]; exact HC1.out.c0)
  go_wp2_with fail
  go_loopw [10] (fun i wr => ∃ (k : Nat), k ≤ 2 * F ∧ i = .int .i64 k ∧ Hid (ValRow wr s (2 * F + 1) (fun j => .int .i64 (if j ≤ k then cnt c p j else 0))) ∧ Below w1.heap.size w1 wr) (fun i _ => 2 * F - (intOf i).toNat)
  case atStart => exact ⟨0, by omega, rfl, Lib.hid (HS.out.congr (fun j _ => by
    by_cases e : j ≤ 0
    · rw [if_pos e]
      have : j = 0 := by omega
      subst this
      rfl
    · rw [if_neg e])), HB2.out⟩
  case round =>
    obtain ⟨k, hk, rfl, HV, hB⟩ := hrel
    have HB := Lib.hid hB
    have z0 := Ext.below hB _ _ Z0.out
    have hgr : g < wr.heap.size := cell_lt z0
    clear hB
    by_cases hlt : k < 2 * F
    · obtain ⟨m, hm⟩ : ∃ m : Nat, k % F = m := ⟨_, rfl⟩
      have hmF : m < F := by rw [← hm]; exact Nat.mod_lt _ (by omega)
      have hmm : (k : Int) % (F : Int) = (m : Int) := by rw [← hm]; omega
      have hk1 : cnt c p (k + 1) = cnt c p k + if ownerAt (m : Int) c.windows = p then 1 else 0 := by
        rw [← hmm, ← HF.out]; rfl
      have r0 := HV.out.cell k (by omega)
      rw [if_pos (Nat.le_refl k)] at r0
      have r1 := HV.out.cell (k + 1) (by omega)
      have r2 := HV.out.free (k + 1)
      have ro := (HQ.out.below HB.out).cell m hmF
      have hbd := cnt_bd c p k
      have hs2 : s < wr.heap.size := HV.out.lt
      clear hm
      by_cases he : ownerAt (m : Int) c.windows = p
      · have e1 : decide (ownerAt (m : Int) c.windows = p) = true := by simp [he]
        rw [e1] at ro
        rw [if_pos he] at hk1
        have HK1 := Lib.hid hk1
        clear hk1 he e1
        go_wp2_with fail
        go_roundw
        case rel => exact ⟨k + 1, by omega, by go_num, Lib.hid (((HV.out.set (k + 1) (.int .i64 (cnt c p k))).set (k + 1) (.int .i64 (cnt c p k + 1))).congr (fun j _ => by
          by_cases e : j = k + 1
          · subst e
            rw [if_pos rfl, if_pos (Nat.le_refl _), HK1.out]
          · rw [if_neg e, if_neg e]
            by_cases e2 : j ≤ k
            · rw [if_pos e2, if_pos (by omega)]
            · rw [if_neg e2, if_neg (by omega)])), (HB.out.setCell (p := ⟨s, k + 1, none⟩) hsw _).setCell (p := ⟨s, k + 1, none⟩) hsw _⟩
        case measure => simp [intOf]; omega
      · have e1 : decide (ownerAt (m : Int) c.windows = p) = false := by simp [he]
        rw [e1] at ro
        rw [if_neg he, Int.add_zero] at hk1
        have HK1 := Lib.hid hk1
        clear hk1 he e1
        go_wp2_with fail
        go_roundw
        case rel => exact ⟨k + 1, by omega, by go_num, Lib.hid ((HV.out.set (k + 1) (.int .i64 (cnt c p k))).congr (fun j _ => by
          by_cases e : j = k + 1
          · subst e
            rw [if_pos rfl, if_pos (Nat.le_refl _), HK1.out]
          · rw [if_neg e]
            by_cases e2 : j ≤ k
            · rw [if_pos e2, if_pos (by omega)]
            · rw [if_neg e2, if_neg (by omega)])), HB.out.setCell (p := ⟨s, k + 1, none⟩) hsw _⟩
        case measure => simp [intOf]; omega
    · obtain rfl : k = 2 * F := by omega
      have HV3 : Hid (ValRow wr s (2 * F + 1) (fun j => .int .i64 (cnt c p j))) := Lib.hid (HV.out.congr (fun j hj => by rw [if_pos (by omega)]))
      clear HV
      have hbr := cnt_bd c p r
      go_wp2_with fail
      obtain ⟨wo, rfl⟩ : ∃ wo : World, wo = wr := ⟨_, rfl⟩
      clear z0
      have HE0 := Lib.hid (leastTo_cap c p r F (cnt c p r) F (by omega) (by simp [cnt]) (by simp [cnt]; omega))
      go_loopw [11, 12] (fun m i wq => ∃ (k : Nat), k ≤ F ∧ i = .int .i64 k ∧ m = .int .i64 (leastTo c p r F k) ∧ Below wo.heap.size wo wq) (fun _ i _ => F - (intOf i).toNat)
      case atStart => exact ⟨0, by omega, rfl, rfl, Below.refl _ _⟩
      case round =>
        obtain ⟨k, hk, rfl, rfl, hB2⟩ := hrel
        have HB3 := Lib.hid hB2
        have z0 := Ext.below hB2 _ _ (Ext.below HB.out _ _ Z0.out)
        have hbl := leastTo_bd c p r F k (by omega) (by omega) (by omega)
        have HV4 := Lib.hid (HV3.out.below hB2)
        by_cases hlt : k < F
        · have q1 := HV4.out.cell (k + r) (by omega)
          have q2 := HV4.out.cell k (by omega)
          have b1 := cnt_bd c p (k + r)
          have b2 := cnt_bd c p k
          have HE := Lib.hid (show leastTo c p r F (k + 1) = min (leastTo c p r F k) (cnt c p (k + r) - cnt c p k) from rfl)
          have s1 : IntKind.i64.wrap ((k : Int) + r) = (k : Int) + r := IntWalk.i64_in _ (by omega)
          have s2 : (0 : Int) ≤ (k : Int) + r := by omega
          have s3 : ((k : Int) + r).toNat = k + r := by omega
          have s4 : IntKind.i64.wrap (cnt c p (k + r) - cnt c p k) = cnt c p (k + r) - cnt c p k := IntWalk.i64_in _ (by omega)
          have s5 : k < 2 * F + 1 := by omega
          have s6 : k + r < 2 * F + 1 := by omega
          clear hB2
          go_wp2_with fail
          go_quiet (fail)
          go_wp2_with fail
          go_roundw
          case rel => exact ⟨k + 1, by omega, by go_num, by rw [HE.out, min_if], below_drewN HB3.out _⟩
          case measure => simp [intOf]; omega
        · obtain rfl : k = F := by omega
          have HC4 := Lib.hid ((HC1.out.ext (Ext.below HB.out)).ext (Ext.below hB2))
          clear hB2
          go_wp2_with fail
          clear z0
          have y0 : wr.cell? ⟨g, 0, none⟩ = some (.int .i64 c.frame) := HC4.out.c0
          have y1 : wr.cell? ⟨g, 1, none⟩ = some (.int .i64 c.quiet) := HC4.out.c1
          have y2 := HC4.out.c2
          have y3 := HC4.out.c3
          have y4 := HC4.out.c4
          have b2 := cnt_bd c p k
          have hcf : c.frame = (k : Int) := HF.out
          have hdiv1 : 0 ≤ (L : Int) / c.frame := Int.ediv_nonneg (by omega) (by omega)
          have hdiv2 : (L : Int) / c.frame ≤ L := Int.ediv_le_self _ (by omega)
          have hm1 : 0 ≤ (L : Int) / c.frame * shareOf p c.windows := by rw [← HCS.out]; exact Int.mul_nonneg hdiv1 b2.1
          have hm2 : (L : Int) / c.frame * shareOf p c.windows ≤ 4096 * 256 := by rw [← HCS.out]; exact Int.mul_le_mul (by omega) (by omega) b2.1 (by omega)
          have s1 : IntKind.i64.wrap ((L : Int) / c.frame * shareOf p c.windows) = (L : Int) / c.frame * shareOf p c.windows := IntWalk.i64_in _ (by omega)
          have s2 : IntKind.i64.wrap ((L : Int) / c.frame * shareOf p c.windows + leastTo c p r k k) = (L : Int) / c.frame * shareOf p c.windows + leastTo c p r k k := IntWalk.i64_in _ (by omega)
          have s3 : IntKind.i64.wrap ((L : Int) / c.frame) = (L : Int) / c.frame := IntWalk.i64_in _ (by omega)
          have s4 : (L : Int).tdiv c.frame = (L : Int) / c.frame := Int.tdiv_eq_ediv_of_nonneg (by omega)
          have s6 : (c.frame == 0) = false := by simp; omega
          have HCF := Lib.hid hcf
          have hf1 : 1 ≤ c.frame := by omega
          have s7 : (c.frame == -1) = false := by simp; omega
          have s8 : ¬ c.frame = 0 := by omega
          have s9 : ¬ c.frame = -1 := by omega
          have hbz : Below wr.heap.size wr wr := Below.refl _ _
          clear hcf
          go_region_held3 (fun w' => w'.cell? ⟨g, 0, none⟩ = some (.int .i64 c.frame) ∧ w'.cell? ⟨g, 1, none⟩ = some (.int .i64 c.quiet) ∧ w'.cell? ⟨g, 2, none⟩ = some (.slice pa c.parts.length pk) ∧ w'.cell? ⟨g, 3, none⟩ = some (.slice wa c.windows.length wk) ∧ w'.cell? ⟨g, 4, none⟩ = some (.slice oa c.ports.length ok) ∧ Below wr.heap.size wr w')
            (first | exact ⟨y0, y1, y2, y3, y4, below_drew hbz⟩ | exact ⟨Ext.below hb9 _ _ y0, Ext.below hb9 _ _ y1, Ext.below hb9 _ _ y2, Ext.below hb9 _ _ y3, Ext.below hb9 _ _ y4, bthen (below_drew hbz) hb9⟩)
            (first | (go_at_call 29; refine (refShare_any c _ p _ ⟨_, _, _, rfl, HC4.out.is.ext (Ext.below (below_drew hbz))⟩ HK.out).mono ?_; rintro e w9 ⟨rfl, hb9⟩) | fail)
          all_goals
            go_wp2_with fail
            go_ret
            exact ⟨ret_int (by rw [HCS.out, HE0.out]), bthen HB1.out (bthen HB.out (bthen HB3.out (bthen (below_drew hbz) hb9)))⟩

set_option maxRecDepth 100000 in
set_option maxHeartbeats 800000 in
theorem refLeastS_any (c : Config) (v : Value) (p len : Int) (w : World) (hc : CfgV w v c) :
    Calls Try.prog 17 #[v, .int .i64 p, .int .i64 len] w fun e w' => e = .returned (.tuple #[.int .i64 (leastSpec c p len).1, .int .i64 (leastSpec c p len).2]) ∧ Below w.heap.size w w' := by
  obtain ⟨pv, wv, ov, rfl, hcfg⟩ := hc
  have HC := Lib.hid hcfg
  obtain ⟨pa, pcap, rfl, hp1, hp2, hp3, hp4⟩ := hcfg.parts
  clear hp4 hcfg
  go_enter Try.func17, Try.ntmps17
  go_wp2_with fail
  refine (refCheck_any c _ _ ⟨_, _, _, rfl, HC.out.ext (Ext.alloc _ _)⟩).mono ?_
  rintro e w1 ⟨rfl, hb1⟩
  have HB1 := Lib.hid (bthen (balloc _ _) hb1)
  have HX := Lib.hid ((cfg_box w c _ _ _ 26 HC.out).ext (Ext.below hb1))
  have z0 := HX.out.c0; have z1 := HX.out.c1; have z2 := HX.out.c2; have z3 := HX.out.c3; have z4 := HX.out.c4; unfold IntAt at z0 z1
  clear hb1
  by_cases hk : checkCfg c = 0
  · have e1 : (checkCfg c != 0) = false := by rw [hk]; rfl
    by_cases hp : p < 0 ∨ p ≥ c.parts.length ∨ len < 0 ∨ len > 4096
    · have HS : Hid (leastSpec c p len = (0, 700)) := Lib.hid (by unfold leastSpec; rw [if_pos (Or.inr hp)])
      have HP := Lib.hid hp
      clear hk hp
      go_wp2_with fail
      all_goals first
        | (go_ret2; exact ⟨ret_pair HS.out, HB1.out⟩)
        | (exfalso; have := HP.out; omega)
    · have HS : Hid (leastSpec c p len = (len / c.frame * cnt c p c.frame.toNat + leastTo c p (len % c.frame).toNat (cnt c p (len % c.frame).toNat) c.frame.toNat, 0)) := Lib.hid (by unfold leastSpec; rw [if_neg (by omega)])
      have p0 : 0 ≤ p := by omega
      have p1 : p < c.parts.length := by omega
      have p2 : 0 ≤ len := by omega
      have p3 : len ≤ 4096 := by omega
      have HK := Lib.hid hk
      clear hk hp
      go_wp2_with fail
      refine (refLeast_any c _ p len _ ⟨_, _, _, rfl, HX.out.is⟩ HK.out p0 p2 p3).mono ?_
      rintro e w2 ⟨rfl, hb2⟩
      go_wp2_with fail
      go_ret2
      exact ⟨ret_pair HS.out, bthen HB1.out hb2⟩
  · have HS : Hid (leastSpec c p len = (0, 700)) := Lib.hid (by unfold leastSpec; rw [if_pos (Or.inl hk)])
    have e1 : (checkCfg c != 0) = true := by simpa using hk
    clear hk
    go_wp2_with fail
    go_ret2
    exact ⟨ret_pair HS.out, HB1.out⟩
end Go.Proofs.Ythnecccakeminaa
