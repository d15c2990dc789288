/- The law AdmitMore. -/
import Derived.Test.YthnecccakeminaaLaw9g2
set_option linter.unusedVariables false
set_option linter.unusedSimpArgs false
namespace Go.Proofs.Ythnecccakeminaa
open Go.RowKit

set_option maxRecDepth 100000 in
set_option maxHeartbeats 1000000 in
theorem admitMore_any (c : Config) (v : Value) (i mo : Int) (w : World) (hc : CfgV w v c) :
    Calls Try.prog 6 #[v, .int .i64 i, .int .i64 mo] w fun e w' => e = .returned (.bool true) ∧ Below w.heap.size w w' := by
  obtain ⟨pv, wv, ov, rfl, hcfg⟩ := hc
  obtain ⟨qa, qk, ra, rk, sa, sk, rfl, rfl, rfl⟩ := hcfg.shape
  have HB0 := Lib.hid (balloc w (.cells #[.int .i64 c.frame, .int .i64 c.quiet, .slice qa c.parts.length qk, .slice ra c.windows.length rk, .slice sa c.ports.length sk] 26))
  have HC0 := Lib.hid (cfg_box w c _ _ _ 26 hcfg)
  clear hcfg
  go_enter Try.func6, Try.ntmps6
  go_wp2_with fail
  refine (awake9_any _).mono ?_
  rintro e w1 ⟨rfl, hb1⟩
  have HB1 := Lib.hid (bthen HB0.out hb1)
  have HC1 := Lib.hid (HC0.out.ext (Ext.below hb1))
  clear hb1 HB0 HC0
  have z0 := HC1.out.c0; have z1 := HC1.out.c1; have z2 := HC1.out.c2; have z3 := HC1.out.c3; have z4 := HC1.out.c4; unfold IntAt at z0 z1
  go_wp2_with fail
  refine (response_any c _ 0 i _ ⟨_, _, _, rfl, HC1.out.is⟩).mono ?_
  rintro e w2 ⟨rfl, hb2⟩
  have HB2 := Lib.hid (bthen HB1.out hb2)
  have HC2 := Lib.hid (HC1.out.ext (Ext.below hb2))
  clear hb2 HB1 HC1
  clear z0 z1 z2 z3 z4
  by_cases hbad : checkCfg c ≠ 0 ∨ levelOf c.parts 0 ≠ 1 ∨ i < 0 ∨ i ≥ (tasksOf c 0).length
  · rw [respSpec_bad hbad]
    clear hbad
    have z0 := HC2.out.c0; have z1 := HC2.out.c1; have z2 := HC2.out.c2; have z3 := HC2.out.c3; have z4 := HC2.out.c4; unfold IntAt at z0 z1
    go_wp2_with (first | (go_at_call 13; refine (num_any _ _).mono ?_; rintro e w' ⟨rfl, hw⟩; subst w') | fail)
    go_ret
    exact ⟨rfl, HB2.out⟩
  · have hk : checkCfg c = 0 := by omega
    have hP : 0 < c.parts.length := by have := (check_ok hk).2.2.2.2.1; omega
    have hlv : c.parts[0].level = 1 := by have h : levelOf c.parts 0 = c.parts[0].level := levelOf_at c 0 hP; omega
    obtain ⟨I, hI0⟩ := Int.eq_ofNat_of_zero_le (show 0 ≤ i by omega)
    have hI : I < c.parts[0].tasks.length := by have h : tasksOf c 0 = c.parts[0].tasks := tasksOf_at c 0 hP; rw [← h]; omega
    subst hI0
    clear hbad
    have hres : ∃ r e : Int, respSpec c 0 I = (r, e) ∧ (e = 0 ∨ e = 901) := by
      have h : respSpec c 0 I = respIn c 0 I := respSpec_in (P := 0) hk hP hlv hI
      exact ⟨_, _, h, respIn_err ..⟩
    obtain ⟨r, ev, hr, hev⟩ := hres
    rw [hr]
    by_cases hn : c.windows.length = 0
    · have hN : ((c.windows.length : Int) == 0) = true := by simp [hn]
      clear hr
      have z0 := HC2.out.c0; have z1 := HC2.out.c1; have z2 := HC2.out.c2; have z3 := HC2.out.c3; have z4 := HC2.out.c4; unfold IntAt at z0 z1
      rcases hev with rfl | rfl
      all_goals
        go_wp2_with (first | (go_at_call 13; refine (num_any _ _).mono ?_; rintro e w' ⟨rfl, hw⟩; subst w') | fail)
        go_ret
        exact ⟨rfl, HB2.out⟩
    · have HN := Lib.hid hn
      have hn0 : ((c.windows.length : Int) == 0) = false := by simp [hn]
      have e9 : (ev == 900) = false := by rcases hev with rfl | rfl <;> rfl
      have HEV := Lib.hid hev
      have HR := Lib.hid hr
      have HK := Lib.hid hk
      have HLV := Lib.hid hlv
      have HI := Lib.hid hI
      clear hr hev hn hk hlv hI
      have z0 := HC2.out.c0; have z1 := HC2.out.c1; have z2 := HC2.out.c2; have z3 := HC2.out.c3; have z4 := HC2.out.c4; unfold IntAt at z0 z1
      go_wp2_with (first | (go_at_call 13; refine (num_any _ _).mono ?_; rintro e w' ⟨rfl, hw⟩; subst w') | fail)
      refine (copyCfg_own c _ _ ⟨_, _, _, rfl, HC2.out.is⟩).mono ?_
      rintro e w3 ⟨pn, wn, on, rfl, hown, hb3⟩
      obtain ⟨nw, r1, r1'⟩ := hown.windows
      have hn1 : 0 < c.windows.length := by have := HN.out; omega
      obtain ⟨b, kw, rfl, hb0, hkw1, hkw2⟩ := ownsRow_some r1 hn1
      obtain ⟨no, r2, r2'⟩ := hown.ports
      obtain ⟨ao, ko, rfl⟩ := own_shape r2
      obtain ⟨L, r3, -⟩ := hown.parts
      obtain ⟨ap, kp, rfl⟩ := own_shape r3
      clear z0 z1 z2 z3 z4
      have hwins := WinsAt.of (r1' w3 _ _ (Ext.below hb3) r1) r1 (by intro e; rw [e] at hn1; simp at hn1)
      obtain ⟨wz, hwz⟩ : ∃ wz, wz = w3.alloc (.cells #[.int .i64 c.frame, .int .i64 c.quiet, .slice ap c.parts.length kp, .slice (some ⟨b, 0, none⟩) c.windows.length kw, .slice ao c.ports.length ko] 26) := ⟨_, rfl⟩
      obtain ⟨gd, hgd⟩ : ∃ gd, gd = w3.heap.size := ⟨_, rfl⟩
      have hbz : Below w3.heap.size w3 wz := by rw [hwz]; exact balloc _ _
      have hblk : wz.heap[gd]? = some (.cells #[.int .i64 c.frame, .int .i64 c.quiet, .slice ap c.parts.length kp, .slice (some ⟨b, 0, none⟩) c.windows.length kw, .slice ao c.ports.length ko] 26 (0, 0)) := by rw [hwz, hgd]; exact blk_new _ _
      obtain ⟨n, hn⟩ : ∃ n, n = c.windows.length := ⟨_, rfl⟩
      obtain ⟨m, hm⟩ : ∃ m, m = n - 1 := ⟨_, rfl⟩
      have hmn : m < c.windows.length := by omega
      have hwz1 := hwins.below hbz
      obtain ⟨cur, hc1, hc2⟩ := hwz1
      obtain ⟨u0, u1, u2⟩ := hc2 m hmn
      have u1 : wz.cell? ⟨b, m * 3 + 1, none⟩ = some (.int .i64 c.windows[m].to_) := BlockIs.of hc1 _ _ u1
      have u2 : wz.cell? ⟨b, m * 3 + 2, none⟩ = some (.int .i64 c.windows[m].part) := BlockIs.of hc1 _ _ u2
      have f1 : wz.frozen? ⟨b, m * 3 + 1, none⟩ = false := thaw hc1 _
      have f2 : wz.frozen? ⟨b, m * 3 + 2, none⟩ = false := thaw hc1 _
      have y0 : wz.cell? ⟨gd, 0, none⟩ = some (.int .i64 c.frame) := BlockIs.of hblk 0 _ rfl
      have y1 : wz.cell? ⟨gd, 1, none⟩ = some (.int .i64 c.quiet) := BlockIs.of hblk 1 _ rfl
      have y2 : wz.cell? ⟨gd, 2, none⟩ = some (.slice ap c.parts.length kp) := BlockIs.of hblk 2 _ rfl
      have y3 : wz.cell? ⟨gd, 3, none⟩ = some (.slice (some ⟨b, 0, none⟩) c.windows.length kw) := BlockIs.of hblk 3 _ rfl
      have y4 : wz.cell? ⟨gd, 4, none⟩ = some (.slice ao c.ports.length ko) := BlockIs.of hblk 4 _ rfl
      have hnn : ((c.windows.length : Int) - 1) = (m : Int) := by omega
      have hwl : c.windows.length ≤ 32 := (check_ok HK.out).2.2.2.2.2.2.1
      have HWZ := Lib.hid (And.intro hc1 (And.intro hc2 hblk))
      have HMN := Lib.hid (And.intro hm hn)
      have HO := Lib.hid hown
      have HBZ := Lib.hid hbz
      have HB3 := Lib.hid hb3
      clear hc1 hc2 hblk hm hn hown hbz hb3 u0 hwins r1 r2 r3 r1' r2'
      go_wp2_with fail
      rw [← hwz, ← hgd]
      have HGD := Lib.hid hgd
      clear hwz hgd
      have hne : gd ≠ b := by
        obtain ⟨nw2, q1, -⟩ := HO.out.windows
        obtain ⟨cur2, hcur2⟩ := own_typed q1 (g := b) rfl
        have := lt_of_block hcur2
        have := HGD.out
        omega
      have HWA := Lib.hid (show WinsAt wz b c.windows from ⟨cur, HWZ.out.1, HWZ.out.2.1⟩)
      have HML := Lib.hid (show m = c.windows.length - 1 by have := HMN.out; omega)
      by_cases hto : c.windows[m].to_ < c.frame
      all_goals
        go_quiet (fail)
        obtain ⟨wy, hwy⟩ : ∃ wy, wy = wz.drewN nq := ⟨_, rfl⟩
        obtain ⟨W2, hW2, hgr, hwa⟩ : ∃ W2, (W2 = if c.windows[m].to_ < c.frame then (wy.setCell ⟨b, m * 3 + 1, none⟩ (.int .i64 c.frame)).setCell ⟨b, m * 3 + 2, none⟩ (.int .i64 0) else wy.setCell ⟨b, m * 3 + 2, none⟩ (.int .i64 0)) ∧ wz.grownBy W2 (some b) ∧ WinsAt W2 b (longerCfg c 0).windows := by
          have h0 : WinsAt wy b c.windows := by rw [hwy]; exact HWA.out
          have e : (longerCfg c 0).windows = _ := longer_last c.frame 0 c.windows m hmn HML.out
          have hz : ∀ W, wy.grownBy W (some b) → wz.grownBy W (some b) := by
            intro W h
            rw [hwy] at h
            exact ⟨h.os, h.tape, h.output, h.size, h.block⟩
          refine ⟨_, rfl, hz _ ?_, ?_⟩
          · by_cases hq : c.windows[m].to_ < c.frame
            · rw [if_pos hq]
              exact grown_trans (set_grown _ _ _ _) (set_grown _ _ _ _)
            · rw [if_neg hq]
              exact set_grown _ _ _ _
          · rw [e]
            by_cases hq : c.windows[m].to_ < c.frame
            · rw [if_pos hq, if_pos hq]
              have h1 := (h0.setTo m hmn c.frame).setPart m (by simpa using hmn) 0
              simpa using h1
            · rw [if_neg hq, if_neg hq]
              exact h0.setPart m hmn 0
        first
          | rw [if_pos hto] at hW2
          | rw [if_neg hto] at hW2
        have HW2 := Lib.hid hW2
        have HWY := Lib.hid hwy
        clear hW2 hwy
        go_wp2_with fail
        rw [← HWY.out, ← HW2.out]
        obtain ⟨hL, hB2w⟩ := (HO.out.below HBZ.out).wins hgr (Nat.le_refl _) (bthen HB3.out HBZ.out) hn1 hwl hwa (by show (longer c.frame 0 c.windows).length = _; exact longer_len ..)
        have HL := Lib.hid (show CfgIs W2 _ _ _ (longerCfg c 0) from hL)
        have HB2w := Lib.hid (bthen HB2.out hB2w)
        have HC3 := Lib.hid (HC2.out.ext (Ext.below hB2w))
        clear hgr hwa HWY HW2 hL hB2w u1 u2 f1 f2 y0 y1 y2 y3 y4 hnn hto hne HWA HWZ HO
        refine (response_any (longerCfg c 0) _ 0 I _ ⟨_, _, _, rfl, HL.out⟩).mono ?_
        rintro e w4 ⟨rfl, hb4⟩
        have HB4 := Lib.hid (bthen HB2w.out hb4)
        have HC4 := Lib.hid (HC3.out.ext (Ext.below hb4))
        clear hb4 HB2w HC3 HL
        have hmw : ∃ s f : Int, respSpec (longerCfg c 0) 0 I = (s, f) ∧ ((ev = 0 ∧ f = 0 ∧ s ≤ r) ∨ ev = 901) := by
          have h := more_window c I HK.out hP HLV.out HI.out
          rw [HR.out] at h
          rcases h with ⟨r', s', e1, e2, e3⟩ | e1
          · injection e1 with e1 e1'
            exact ⟨_, _, e2, .inl ⟨e1', rfl, by omega⟩⟩
          · injection e1 with e1 e1'
            exact ⟨_, _, rfl, .inr e1'⟩
        obtain ⟨s, f, hsf, hmw⟩ := hmw
        rw [hsf]
        clear hsf e9 hn0
        rcases hmw with ⟨rfl, rfl, hle⟩ | rfl
        all_goals
          have z0 := HC4.out.c0; have z1 := HC4.out.c1; have z2 := HC4.out.c2; have z3 := HC4.out.c3; have z4 := HC4.out.c4; unfold IntAt at z0 z1
          go_wp2_with (first | (go_at_call 13; refine (num_any _ _).mono ?_; rintro e w' ⟨rfl, hw⟩; subst w') | fail)
          refine (copyCfg_own c _ _ ⟨_, _, _, rfl, HC4.out.is⟩).mono ?_
          rintro e w5 ⟨pn', wn', on', rfl, hown, hb5⟩
          obtain ⟨nw', r1, -⟩ := hown.windows
          obtain ⟨aw', kw', rfl⟩ := own_shape r1
          obtain ⟨no', r2, -⟩ := hown.ports
          obtain ⟨ao', ko', rfl⟩ := own_shape r2
          obtain ⟨L', r3, -⟩ := hown.parts
          obtain ⟨q', kp', rfl, hq1, hq2, hq3⟩ := ownsRow_some r3 hP
          clear r1 r2 r3 z0 z1 z2 z3 z4
          obtain ⟨bt, ct, t1, tI, tf, hTy, hTA, hT⟩ := hown.task hb5 hP I HI.out
          have HT := Lib.hid hT
          have HTA := Lib.hid (And.intro hTy hTA)
          clear hT hTA hTy
          obtain ⟨x0, x1, x2, x3, x4, x5⟩ := tI
          unfold IntAt at x0 x1 x2 x3 x4 x5
          obtain ⟨wz', hwz⟩ : ∃ wz', wz' = w5.alloc (.cells #[.int .i64 c.frame, .int .i64 c.quiet, .slice (some ⟨q', 0, none⟩) c.parts.length kp', .slice aw' c.windows.length kw', .slice ao' c.ports.length ko'] 26) := ⟨_, rfl⟩
          obtain ⟨gt, hgt⟩ : ∃ gt, gt = w5.heap.size := ⟨_, rfl⟩
          have hbz : Below w5.heap.size w5 wz' := by rw [hwz]; exact balloc _ _
          have hblk : wz'.heap[gt]? = some (.cells #[.int .i64 c.frame, .int .i64 c.quiet, .slice (some ⟨q', 0, none⟩) c.parts.length kp', .slice aw' c.windows.length kw', .slice ao' c.ports.length ko'] 26 (0, 0)) := by rw [hwz, hgt]; exact blk_new _ _
          have HX0 := Lib.hid x0
          have HTF := Lib.hid tf
          clear tf
          have hE := Ext.below hbz
          have t1 := hE _ _ t1
          have x0 := hE _ _ x0
          have x1 := hE _ _ x1
          have x2 := hE _ _ x2
          have x3 := hE _ _ x3
          have x4 := hE _ _ x4
          have x5 := hE _ _ x5
          have y0 : wz'.cell? ⟨gt, 0, none⟩ = some (.int .i64 c.frame) := BlockIs.of hblk 0 _ rfl
          have y1 : wz'.cell? ⟨gt, 1, none⟩ = some (.int .i64 c.quiet) := BlockIs.of hblk 1 _ rfl
          have y2 : wz'.cell? ⟨gt, 2, none⟩ = some (.slice (some ⟨q', 0, none⟩) c.parts.length kp') := BlockIs.of hblk 2 _ rfl
          have y3 : wz'.cell? ⟨gt, 3, none⟩ = some (.slice aw' c.windows.length kw') := BlockIs.of hblk 3 _ rfl
          have y4 : wz'.cell? ⟨gt, 4, none⟩ = some (.slice ao' c.ports.length ko') := BlockIs.of hblk 4 _ rfl
          have hIl : I < c.parts[0].tasks.length := HI.out
          have hIi : decide (c.parts[0].tasks.length ≤ I) = false := by simp; omega
          have hI0 : decide ((I : Int) < 0) = false := by simp
          have HBK := Lib.hid (And.intro hblk hbz)
          have HO := Lib.hid hown
          have HB5 := Lib.hid hb5
          clear hblk hbz hown hb5 hE
          have htm := taskMay_iff (task_of_check HK.out 0 I hP HI.out)
          obtain ⟨g1, g2, g3, g4⟩ := htm
          obtain ⟨mq, hmq⟩ : ∃ mq : Nat, bits BinOp.and IntKind.i64 mo 3 = (mq : Int) := Int.eq_ofNat_of_zero_le (by rw [i64_and3]; omega)
          have hmq3 : mq ≤ 3 := by have := i64_and3 mo; omega
          have hgt0 := Lib.hid hgt
          go_wp2_with (first | (rw [← hwz, ← hgt]; clear hwz hgt) | fail)
          all_goals
            first
            | (have hcs : c.parts[0].tasks[I].deadline ≤ c.parts[0].tasks[I].chigh + mq := by omega
               obtain ⟨wx, hwx⟩ : ∃ wx, wx = wz'.alloc (.cells #[.int .i64 c.parts[0].tasks[I].kind, .int .i64 c.parts[0].tasks[I].period, .int .i64 c.parts[0].tasks[I].deadline, .int .i64 c.parts[0].tasks[I].clow, .int .i64 c.parts[0].tasks[I].deadline, .int .i64 c.parts[0].tasks[I].prio] 44) := ⟨_, rfl⟩
               rw [← hwx]
               obtain ⟨ch, hch⟩ : ∃ ch : Int, ch = c.parts[0].tasks[I].deadline := ⟨_, rfl⟩
               have hx : Hid (wx = wz'.alloc (.cells #[.int .i64 c.parts[0].tasks[I].kind, .int .i64 c.parts[0].tasks[I].period, .int .i64 c.parts[0].tasks[I].deadline, .int .i64 c.parts[0].tasks[I].clow, .int .i64 ch, .int .i64 c.parts[0].tasks[I].prio] 44)) := Lib.hid (by rw [hwx, hch])
               have h1 : c.parts[0].tasks[I].chigh ≤ ch := by omega
               have h2 : ch ≤ c.parts[0].tasks[I].deadline := by omega
               clear hwx hch hcs)
            | (have hcs : c.parts[0].tasks[I].chigh + mq < c.parts[0].tasks[I].deadline := by omega
               obtain ⟨wx, hwx⟩ : ∃ wx, wx = wz'.alloc (.cells #[.int .i64 c.parts[0].tasks[I].kind, .int .i64 c.parts[0].tasks[I].period, .int .i64 c.parts[0].tasks[I].deadline, .int .i64 c.parts[0].tasks[I].clow, .int .i64 (c.parts[0].tasks[I].chigh + mq), .int .i64 c.parts[0].tasks[I].prio] 44) := ⟨_, rfl⟩
               rw [← hwx]
               obtain ⟨ch, hch⟩ : ∃ ch : Int, ch = c.parts[0].tasks[I].chigh + mq := ⟨_, rfl⟩
               have hx : Hid (wx = wz'.alloc (.cells #[.int .i64 c.parts[0].tasks[I].kind, .int .i64 c.parts[0].tasks[I].period, .int .i64 c.parts[0].tasks[I].deadline, .int .i64 c.parts[0].tasks[I].clow, .int .i64 ch, .int .i64 c.parts[0].tasks[I].prio] 44)) := Lib.hid (by rw [hwx, hch])
               have h1 : c.parts[0].tasks[I].chigh ≤ ch := by omega
               have h2 : ch ≤ c.parts[0].tasks[I].deadline := by omega
               clear hwx hch hcs)
            obtain ⟨gx, hgx⟩ : ∃ gx, gx = wz'.heap.size := ⟨_, rfl⟩
            rw [← hgx]
            have HGT := Lib.hid hgt0.out
            have hbx : wx.heap[gx]? = some (.cells #[.int .i64 c.parts[0].tasks[I].kind, .int .i64 c.parts[0].tasks[I].period, .int .i64 c.parts[0].tasks[I].deadline, .int .i64 c.parts[0].tasks[I].clow, .int .i64 ch, .int .i64 c.parts[0].tasks[I].prio] 44 (0, 0)) := by rw [hx.out, hgx]; exact blk_new _ _
            have HBX := Lib.hid (And.intro hbx hgx)
            have hbzx : Below wz'.heap.size wz' wx := by rw [hx.out]; exact balloc _ _
            have HBZX := Lib.hid hbzx
            have HFZ : Hid (∀ j, wx.frozen? ⟨bt, j, none⟩ = false) := Lib.hid (fun j => by
              have hlt : bt < w5.heap.size := cell_lt HX0.out
              have hb := bthen HBK.out.2 HBZX.out
              exact (hb.frozen (p := ⟨bt, j, none⟩) hlt).trans (HTF.out j))
            clear hbx hgx hbzx hx y0 y1 y3 y4
            refine region_tail 8 (by kernel_rfl) (by kernel_rfl) ?_
            intro wy hy hby
            have hE : Ext wz' wy := (Ext.below HBZX.out).trans (fun a v h => by rw [cell_of_heap hy]; exact h)
            have hX : ∀ a v, wx.cell? a = some v → wy.cell? a = some v := fun a v h => by rw [cell_of_heap hy]; exact h
            have y2 := hE _ _ y2
            have t1 := hE _ _ t1
            have x0 := hE _ _ x0
            have x1 := hE _ _ x1
            have x2 := hE _ _ x2
            have x3 := hE _ _ x3
            have x4 := hE _ _ x4
            have x5 := hE _ _ x5
            have fz0 : wy.frozen? ⟨bt, I * 6, none⟩ = false := by rw [frozen_of_heap hy]; exact HFZ.out _
            have fz1 : wy.frozen? ⟨bt, I * 6 + 1, none⟩ = false := by rw [frozen_of_heap hy]; exact HFZ.out _
            have fz2 : wy.frozen? ⟨bt, I * 6 + 2, none⟩ = false := by rw [frozen_of_heap hy]; exact HFZ.out _
            have fz3 : wy.frozen? ⟨bt, I * 6 + 3, none⟩ = false := by rw [frozen_of_heap hy]; exact HFZ.out _
            have fz4 : wy.frozen? ⟨bt, I * 6 + 4, none⟩ = false := by rw [frozen_of_heap hy]; exact HFZ.out _
            have fz5 : wy.frozen? ⟨bt, I * 6 + 5, none⟩ = false := by rw [frozen_of_heap hy]; exact HFZ.out _
            have v0 := hX _ _ (BlockIs.of HBX.out.1 0 _ rfl)
            have v1 := hX _ _ (BlockIs.of HBX.out.1 1 _ rfl)
            have v2 := hX _ _ (BlockIs.of HBX.out.1 2 _ rfl)
            have v3 := hX _ _ (BlockIs.of HBX.out.1 3 _ rfl)
            have v4 := hX _ _ (BlockIs.of HBX.out.1 4 _ rfl)
            have v5 := hX _ _ (BlockIs.of HBX.out.1 5 _ rfl)
            have HY := Lib.hid (And.intro hy hby)
            have HE := Lib.hid hE
            clear hy hby hE hX
            simp only [List.take_succ_cons, List.take_zero, List.drop_succ_cons, List.drop_zero]
            repeat still_step
            refine wpStill_nil ?_
            obtain ⟨W6, hW6⟩ : ∃ W6, W6 = (((((wy.setCell ⟨bt, I * 6, none⟩ (.int .i64 c.parts[0].tasks[I].kind)).setCell ⟨bt, I * 6 + 1, none⟩ (.int .i64 c.parts[0].tasks[I].period)).setCell ⟨bt, I * 6 + 2, none⟩ (.int .i64 c.parts[0].tasks[I].deadline)).setCell ⟨bt, I * 6 + 3, none⟩ (.int .i64 c.parts[0].tasks[I].clow)).setCell ⟨bt, I * 6 + 4, none⟩ (.int .i64 ch)).setCell ⟨bt, I * 6 + 5, none⟩ (.int .i64 c.parts[0].tasks[I].prio) := ⟨_, rfl⟩
            have hb5y : Below w5.heap.size w5 wy := bthen (bthen HBK.out.2 HBZX.out) HY.out.2
            have hgr : wy.grownBy W6 (some bt) := by rw [hW6]; exact chain_grown ..
            have hta := (HTA.out.2.below hb5y).put I hIl (moreTask c.parts[0].tasks[I] ch)
            obtain ⟨his, hb6⟩ := HT.out W6 ch (grown_trans (below_grown hb5y _) hgr) (by rw [hW6]; exact hta)
            have hbl : gt ≠ bt := by
              have h1 : bt < w5.heap.size := cell_lt HX0.out
              have h2 := HGT.out
              omega
            have hbk : W6.heap[gt]? = some (.cells #[.int .i64 c.frame, .int .i64 c.quiet, .slice (some ⟨q', 0, none⟩) c.parts.length kp', .slice aw' c.windows.length kw', .slice ao' c.ports.length ko'] 26 (0, 0)) := by
              have h0 := keep_at HBK.out.1 (bthen HBZX.out HY.out.2)
              rw [hgr.block gt (lt_of_block h0) (by intro e; injection e with e; exact hbl e)]
              exact h0
            have HIS := Lib.hid his
            have HB6 := Lib.hid (bthen HB4.out hb6)
            have y0 := BlockIs.of hbk 0 _ rfl
            have y1 := BlockIs.of hbk 1 _ rfl
            have y2' := BlockIs.of hbk 2 _ rfl
            have y3 := BlockIs.of hbk 3 _ rfl
            have y4 := BlockIs.of hbk 4 _ rfl
            have hmb : ∃ u g : Int, respSpec (withParts c (moreParts c I ch)) 0 I = (u, g) ∧ (g = 901 ∨ (g = 0 ∧ (respSpec c 0 I).2 = 0 ∧ (respSpec c 0 I).1 ≤ u)) := by
              rcases more_budget c I ch HK.out hP HLV.out HI.out h1 h2 with ⟨u, r2, e1, e2, e3⟩ | e1
              · exact ⟨_, _, e1, .inr ⟨rfl, by rw [e2], by rw [e2]; simpa using e3⟩⟩
              · exact ⟨_, _, e1, .inl rfl⟩
            rw [HR.out] at hmb
            obtain ⟨u, g, hug, hmb⟩ := hmb
            have HUG := Lib.hid hug
            have HMB := Lib.hid hmb
            clear v0 v1 v2 v3 v4 v5 y2 t1 hb5y hgr hta his hb6 hbk hug hmb hbl HT HTA
            go_wp2_with (first | (rw [← hW6]; clear hW6) | fail)
            clear x0 x1 x2 x3 x4 x5 fz0 fz1 fz2 fz3 fz4 fz5
            refine (response_any (withParts c (moreParts c I ch)) _ 0 I _ ⟨_, _, _, rfl, HIS.out⟩).mono ?_
            rw [HUG.out]
            rintro e w7 ⟨rfl, hb7⟩
            have HB7 := Lib.hid (bthen HB6.out hb7)
            clear hb7 y0 y1 y2' y3 y4
            have hmb := HMB.out
            clear HMB HUG
            rcases hmb with rfl | ⟨rfl, hz, hle'⟩
            · go_wp2_with (first | (go_at_call 13; refine (num_any _ _).mono ?_; rintro e w' ⟨rfl, hw⟩; subst w') | fail)
              go_ret
              exact ⟨rfl, HB7.out⟩
            · first
              | exact absurd hz (by decide)
              | (clear hz
                 go_wp2_with (first | (go_at_call 13; refine (num_any _ _).mono ?_; rintro e w' ⟨rfl, hw⟩; subst w') | fail)
                 go_ret
                 exact ⟨ret_bool (by simp), HB7.out⟩)
end Go.Proofs.Ythnecccakeminaa
