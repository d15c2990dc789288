/- What the reference answers of an audit. -/
import Derived.Test.YtfhebonhcolbdaaAud6
import Derived.Deep.DeepCutAuto
set_option linter.unusedVariables false
set_option linter.unusedSimpArgs false
namespace Go.Proofs.Ytfhebonhcolbdaa
open Go.RowKit

set_option maxRecDepth 100000 in
set_option maxHeartbeats 4000000 in
theorem refAudit_any (c : Config) (v : Value) (rv : Value) (rs : List Row) (w : World) (hc : CfgV w v c) (hv : RowsV w rv rs) :
    Calls Try.prog 12 #[v, rv] w fun e w' => e = .returned (.int .i64 (auditSpec c rs)) ∧ Below w.heap.size w w' := by
  obtain ⟨pv, wv, ov, rfl, hcfg⟩ := hc
  obtain ⟨pa, pk, wa, wk, oa, ok, rfl, rfl, rfl⟩ := hcfg.shape
  have HB0 := Lib.hid (balloc w (.cells #[.int .i64 c.frame, .int .i64 c.quiet, .slice pa c.parts.length pk, .slice wa c.windows.length wk, .slice oa c.ports.length ok] 26))
  have HC0 := Lib.hid (cfg_box w c _ _ _ 26 hcfg)
  have HR := Lib.hid hv
  obtain ⟨a, cap, rfl, h2, h3, h4, h5⟩ := hv
  have HV := Lib.hid h5
  have hl : rs.length ≤ 1000000000000000 := by omega
  obtain ⟨g, hg⟩ : ∃ g, g = w.heap.size := ⟨_, rfl⟩
  rw [← hg] at HC0
  have HG := Lib.hid hg
  clear hcfg hg h5
  go_enter Try.func12, Try.ntmps12
  go_wp2_with fail
  rw [← HG.out]
  refine (refRowsMay_any c _ _ rs _ ⟨_, _, _, rfl, HC0.out.is⟩ (HR.out.ext (Ext.alloc _ _))).mono ?_
  rintro e w1 ⟨rfl, hb1⟩
  have HB1 := Lib.hid (bthen HB0.out hb1)
  have HC1 := Lib.hid (HC0.out.ext (Ext.below hb1))
  clear hb1 HB0 HC0
  cases hm : rowsMay c rs with
  | false =>
    have HX : Hid (auditSpec c rs = 2400) := Lib.hid (by unfold auditSpec; rw [if_pos hm])
    clear hm
    go_wp2_with fail
    go_ret
    exact ⟨ret_int HX.out.symm, HB1.out⟩
  | true =>
    have HX : Hid (auditSpec c rs = if auditFrom2 c none 0 rs = true then 0 else 2401) := Lib.hid (by unfold auditSpec; rw [if_neg (by rw [hm]; simp), auditFrom2_first])
    have hmm : checkCfg c = 0 ∧ ∀ r ∈ rs, rowMay c r = true := by
      unfold rowsMay at hm
      simp only [Bool.and_eq_true, List.all_eq_true, decide_eq_true_eq] at hm
      exact ⟨hm.2, hm.1⟩
    have HM := Lib.hid hmm
    clear hm hmm
    go_wp2_with fail
    go_loopw [5, 6, 7, 8, 9] (fun mo i _ _ _ wr => ∃ (k : Nat) (m : Int), k ≤ rs.length ∧ i = .int .i64 k ∧ mo = .int .i64 m ∧ Hid (auditFrom2 c none 0 rs = auditFrom2 c (prevTick rs k) m (rs.drop k)) ∧ Below w.heap.size w wr ∧ Hid (Ext w1 wr)) (fun _ i _ _ _ _ => rs.length - (intOf i).toNat)
    case atStart => exact ⟨0, 0, by omega, rfl, rfl, Lib.hid (by simp [prevTick]), HB1.out, Lib.hid (Ext.refl _)⟩
    case round =>
      obtain ⟨k, m, hk, rfl, rfl, HD, hB, HE⟩ := hrel
      have HB := Lib.hid hB
      clear hB
      by_cases hlt : k < rs.length
      · obtain ⟨b, off, rfl, hcell⟩ := HV.out (by intro h; rw [h] at hlt; simp at hlt)
        have hRk := RowAt.ext (Ext.below HB.out) (hcell k hlt)
        have hm0 := HM.out.2 _ (List.getElem_mem hlt)
        have HRM := Lib.hid hm0
        unfold rowMay at hm0
        rw [decide_eq_true_eq] at hm0
        obtain ⟨mt0, mt1, -⟩ := hm0
        have hstep := auditFrom2_step c (prevTick rs k) m rs k hlt
        rw [← HD.out] at hstep
        have HS := Lib.hid hstep
        have hpn : prevTick rs (k + 1) = some rs[k].tick := by unfold prevTick; rw [if_neg (by omega), Nat.add_sub_cancel, List.getElem?_eq_getElem hlt]; rfl
        obtain ⟨r, hr⟩ : ∃ r, r = rs[k] := ⟨_, rfl⟩
        rw [← hr] at hRk HRM HS mt0 mt1 hpn
        have HPN := Lib.hid hpn
        obtain ⟨y0, y1, y2, y3, ev, y4, hev⟩ := hRk
        obtain ⟨ea, ec, rfl, e2, e3, e4, e5⟩ := hev
        have HEV := Lib.hid e5
        have el : r.events.length ≤ 1000000000000000 := by omega
        unfold IntAt at y0 y1 y3
        unfold BoolAt at y2
        have hbr : b < wr.heap.size := cell_lt y0
        obtain ⟨rb, hrb⟩ : ∃ rb, rb = wr.heap.size := ⟨_, rfl⟩
        have HPV : Hid (∀ j, k = j + 1 → ∃ q : Int, prevTick rs k = some q ∧ wr.cell? ⟨b, off + j * 5, none⟩ = some (.int .i64 q)) := Lib.hid (fun j hj => by
          have hjl : j < rs.length := by omega
          obtain ⟨p0, -⟩ := RowAt.ext (Ext.below HB.out) (hcell j hjl)
          refine ⟨rs[j].tick, ?_, p0⟩
          unfold prevTick
          rw [if_neg (by omega), hj, Nat.add_sub_cancel, List.getElem?_eq_getElem hjl]
          rfl)
        clear hcell hstep HD hr hpn e5
        go_wp2_with fail
        have hba := balloc wr (.cells #[.int .i64 r.tick, .int .i64 r.owner, .bool r.dealt, .int .i64 r.mode, .slice ea r.events.length ec] 45)
        have r0 : (wr.alloc (.cells #[.int .i64 r.tick, .int .i64 r.owner, .bool r.dealt, .int .i64 r.mode, .slice ea r.events.length ec] 45)).cell? ⟨wr.heap.size, 0, none⟩ = some (.int .i64 r.tick) := box_at 0 rfl
        have r1 : (wr.alloc (.cells #[.int .i64 r.tick, .int .i64 r.owner, .bool r.dealt, .int .i64 r.mode, .slice ea r.events.length ec] 45)).cell? ⟨wr.heap.size, 1, none⟩ = some (.int .i64 r.owner) := box_at 1 rfl
        have r2 : (wr.alloc (.cells #[.int .i64 r.tick, .int .i64 r.owner, .bool r.dealt, .int .i64 r.mode, .slice ea r.events.length ec] 45)).cell? ⟨wr.heap.size, 2, none⟩ = some (.bool r.dealt) := box_at 2 rfl
        have r3 : (wr.alloc (.cells #[.int .i64 r.tick, .int .i64 r.owner, .bool r.dealt, .int .i64 r.mode, .slice ea r.events.length ec] 45)).cell? ⟨wr.heap.size, 3, none⟩ = some (.int .i64 r.mode) := box_at 3 rfl
        have r4 : (wr.alloc (.cells #[.int .i64 r.tick, .int .i64 r.owner, .bool r.dealt, .int .i64 r.mode, .slice ea r.events.length ec] 45)).cell? ⟨wr.heap.size, 4, none⟩ = some (.slice ea r.events.length ec) := box_at 4 rfl
        obtain ⟨wq, hwq⟩ : ∃ wq, wq = wr.alloc (.cells #[.int .i64 r.tick, .int .i64 r.owner, .bool r.dealt, .int .i64 r.mode, .slice ea r.events.length ec] 45) := ⟨_, rfl⟩
        rw [← hwq, ← hrb] at r0 r1 r2 r3 r4
        rw [← hwq] at hba
        rw [← hwq, ← hrb]
        have HBQ := Lib.hid (bthen HB.out hba)
        have HEQ := Lib.hid (HE.out.trans (Ext.below hba))
        have HPVQ : Hid (∀ j, k = j + 1 → ∃ q : Int, prevTick rs k = some q ∧ wq.cell? ⟨b, off + j * 5, none⟩ = some (.int .i64 q)) := Lib.hid (fun j hj => by
          obtain ⟨q, h1, h2⟩ := HPV.out j hj
          exact ⟨q, h1, Ext.below hba _ _ h2⟩)
        have HRR := Lib.hid (And.intro r0 (And.intro r1 (And.intro r2 (And.intro r3 r4))))
        have HEVQ : Hid (r.events ≠ [] → ∃ eb eo, ea = some ⟨eb, eo, none⟩ ∧ ∀ i (h : i < r.events.length), EventAt wq eb (eo + i * 4) r.events[i]) := Lib.hid (fun hne => by
          obtain ⟨eb, eo, h1, h2⟩ := HEV.out hne
          exact ⟨eb, eo, h1, fun i hi => EventAt.ext (Ext.below hba) (h2 i hi)⟩)
        have HRB := Lib.hid hrb
        obtain ⟨tok, htok⟩ : ∃ tok : Bool, tok = (match prevTick rs k with | none => true | some q => decide (r.tick - 1 = q)) := ⟨_, rfl⟩
        clear hba hwq hrb y0 y1 y2 y3 y4 HPV HEV hbr HB HE
        go_cut [37] (fun s wx => s = .bool (!tok) ∧ ∃ n, wx = wq.drewN n)
        case first =>
          by_cases hk0 : k = 0
          · subst hk0
            have ht : tok = true := by rw [htok]; rfl
            have HT := Lib.hid ht
            clear htok ht
            go_quiet (fail)
            go_wp2_with fail
            go_meet
            exact ⟨by rw [HT.out]; rfl, _, rfl⟩
          · obtain ⟨j, hj⟩ : ∃ j, k = j + 1 := ⟨k - 1, by omega⟩
            obtain ⟨q, hq1, hq2⟩ := HPVQ.out j hj
            have ht : tok = decide (r.tick - 1 = q) := by rw [htok, hq1]
            have e1 : decide ((0 : Int) < (k : Int)) = true := by simp; omega
            have ix1 : (k : Int) - 1 = (j : Int) := by omega
            have ix2 : (0 : Int) ≤ (j : Int) := by omega
            have ix3 : (j : Int) < rs.length := by omega
            have ix4 : j < rs.length := by omega
            have ix5 : IntKind.i64.wrap ((k : Int) - 1) = (j : Int) := by rw [ix1]; exact IntWalk.i64_in _ (by omega)
            have e0 : 0 < k := by omega
            have ix7 : IntKind.i64.wrap (j : Int) = (j : Int) := IntWalk.i64_in _ (by omega)
            have ix6 : IntKind.i64.wrap (r.tick - 1) = r.tick - 1 := IntWalk.i64_in _ (by omega)
            have HT := Lib.hid ht
            clear htok ht hj hq1
            go_quiet (fail)
            go_wp2_with fail
            go_meet
            exact ⟨by rw [HT.out]; exact congrArg Value.bool (by rw [Bool.eq_iff_iff]; simp), _, rfl⟩
        case rest =>
          obtain ⟨rfl, n, hwx⟩ := hcut
          have hbx : Below wq.heap.size wq wc := by rw [hwx]; exact below_drewN (Below.refl _ _) _
          have HS2 : Hid (auditFrom2 c none 0 rs = ((tok && ownedSpec c r (wasSpec r m) && loudSpec r) && auditFrom2 c (some r.tick) r.mode (rs.drop (k + 1)))) := Lib.hid (by rw [HS.out, htok]; rfl)
          have HBX := Lib.hid (bthen HBQ.out hbx)
          have HEX := Lib.hid (HEQ.out.trans (Ext.below hbx))
          obtain ⟨r0, r1, r2, r3, r4⟩ := HRR.out
          have hxx := Ext.below hbx
          replace r0 := hxx _ _ r0
          replace r1 := hxx _ _ r1
          replace r2 := hxx _ _ r2
          replace r3 := hxx _ _ r3
          replace r4 := hxx _ _ r4
          have HRX := Lib.hid (And.intro r0 (And.intro r1 (And.intro r2 (And.intro r3 r4))))
          have HEVX : Hid (r.events ≠ [] → ∃ eb eo, ea = some ⟨eb, eo, none⟩ ∧ ∀ i (h : i < r.events.length), EventAt wc eb (eo + i * 4) r.events[i]) := Lib.hid (fun hne => by
            obtain ⟨eb, eo, h1, h2⟩ := HEVQ.out hne
            exact ⟨eb, eo, h1, fun i hi => EventAt.ext hxx (h2 i hi)⟩)
          clear hwx hbx hxx htok HS HPVQ HRR HEVQ HBQ HEQ
          cases tok with
          | false =>
            have HZ : Hid (auditSpec c rs = 2401) := Lib.hid (by rw [HX.out, HS2.out]; simp)
            go_wp2_with fail
            go_ret
            exact ⟨ret_int HZ.out.symm, HBX.out⟩
          | true =>
            cases hev : r.events with
            | nil =>
              have hs : wasSpec r m = m := by unfold wasSpec; rw [hev]
              have HSW := Lib.hid hs
              have hl0 : r.events.length = 0 := by rw [hev]; rfl
              rw [hl0] at r4
              clear hev hs
              go_wp2_with fail
              clear r0 r1 r2 r3 r4 hl0
              go_loop [8, 9] (fun o i => ∃ (j : Nat) (bo : Bool), j ≤ r.events.length ∧ i = .int .i64 j ∧ o = .bool bo ∧ Hid (anyOver r.events = (bo || anyOver (r.events.drop j)))) (fun _ i => r.events.length - (intOf i).toNat)
              case atStart => exact ⟨0, false, by omega, rfl, rfl, Lib.hid (by simp)⟩
              case round =>
                obtain ⟨j, bo, hj, rfl, rfl, HO⟩ := hrel
                obtain ⟨r0, r1, r2, r3, r4⟩ := HRX.out
                by_cases hjl : j < r.events.length
                · obtain ⟨eb', eo', hpe, hc⟩ := HEVX.out (by intro h; rw [h] at hjl; simp at hjl)
                  first | subst hpe | (injection hpe with hpe; injection hpe with hp1 hp2; subst hp1; subst hp2)
                  obtain ⟨q0, q1, q2, q3⟩ := hc j hjl
                  unfold IntAt at q0 q1 q2 q3
                  have hd : r.events.drop j = r.events[j] :: r.events.drop (j + 1) := List.drop_eq_getElem_cons hjl
                  have HDR : Hid (anyOver (r.events.drop j) = (decide (r.events[j].kind = 4) || anyOver (r.events.drop (j + 1)))) := Lib.hid (by rw [hd]; rfl)
                  clear hc hd
                  cases bo with
                  | true =>
                    go_wp2_with fail
                    go_round
                    case rel => exact ⟨j + 1, true, by omega, by go_num, rfl, Lib.hid (by rw [HO.out]; simp)⟩
                    case measure => simp [intOf]; omega
                  | false =>
                    by_cases h4 : r.events[j].kind = 4
                    · have e4 : (r.events[j].kind == 4) = true := by simp [h4]
                      have HH : Hid (anyOver r.events = (true || anyOver (r.events.drop (j + 1)))) := Lib.hid (by rw [HO.out, HDR.out, decide_eq_true h4]; simp)
                      clear h4
                      go_wp2_with fail
                      go_round
                      case rel => exact ⟨j + 1, true, by omega, by go_num, rfl, HH⟩
                      case measure => simp [intOf]; omega
                    · have e4 : (r.events[j].kind == 4) = false := by simp [h4]
                      have HH : Hid (anyOver r.events = (false || anyOver (r.events.drop (j + 1)))) := Lib.hid (by rw [HO.out, HDR.out, decide_eq_false h4]; simp)
                      clear h4
                      go_wp2_with fail
                      go_round
                      case rel => exact ⟨j + 1, false, by omega, by go_num, rfl, HH⟩
                      case measure => simp [intOf]; omega
                · have HA : Hid (anyOver r.events = bo) := Lib.hid (by rw [HO.out, List.drop_of_length_le (by omega)]; simp [anyOver])
                  have HCX := Lib.hid (HC1.out.ext HEX.out)
                  have z0 := HCX.out.c0; have z1 := HCX.out.c1; have z2 := HCX.out.c2; have z3 := HCX.out.c3; have z4 := HCX.out.c4; unfold IntAt at z0 z1
                  clear HO
                  go_wp2_with fail
                  refine (refOwned_any c _ _ r _ _ ⟨_, _, _, rfl, HCX.out.is⟩ HM.out.1 HRM.out).mono ?_
                  rintro e w2 ⟨rfl, hb2⟩
                  have HB2 := Lib.hid (bthen HBX.out hb2)
                  have HE2 := Lib.hid (HEX.out.trans (Ext.below hb2))
                  have r3 := Ext.below hb2 _ _ r3
                  rw [← HSW.out]
                  have HSX : Hid (auditFrom2 c none 0 rs = ((ownedSpec c r (wasSpec r m) && !(bo && decide (r.mode ≠ 1))) && auditFrom2 c (some r.tick) r.mode (rs.drop (k + 1)))) := Lib.hid (by rw [HS2.out, loud_any2, HA.out, Bool.true_and])
                  obtain ⟨ow, how⟩ : ∃ ow, ow = ownedSpec c r (wasSpec r m) := ⟨_, rfl⟩
                  rw [← how] at HSX ⊢
                  clear hb2 HS2 HA how z0 z1 z2 z3 z4 r0 r1 r2 r4
                  by_cases hok : ow = true ∧ ¬ (bo = true ∧ r.mode ≠ 1)
                  · obtain ⟨rfl, hno⟩ := hok
                    have HN : Hid (auditFrom2 c none 0 rs = auditFrom2 c (prevTick rs (k + 1)) r.mode (rs.drop (k + 1))) := Lib.hid (by
                      rw [HSX.out, HPN.out]
                      have : (bo && decide (r.mode ≠ 1)) = false := by cases bo <;> simp at hno ⊢; omega
                      rw [this]; simp)
                    cases bo with
                    | false =>
                      clear hno
                      go_wp2_with fail
                      go_roundw
                      case rel => exact ⟨k + 1, _, by omega, by go_num, rfl, HN, HB2.out, HE2⟩
                      case measure => simp [intOf]; omega
                    | true =>
                      have m1 : (r.mode != 1) = false := by simp at hno ⊢; omega
                      clear hno
                      go_wp2_with fail
                      go_roundw
                      case rel => exact ⟨k + 1, _, by omega, by go_num, rfl, HN, HB2.out, HE2⟩
                      case measure => simp [intOf]; omega
                  · have HZ : Hid (auditSpec c rs = 2401) := Lib.hid (by
                      rw [HX.out, HSX.out, if_neg]
                      intro h
                      simp only [Bool.and_eq_true, Bool.not_eq_true', Bool.and_eq_false_iff, decide_eq_false_iff_not] at h
                      refine hok ⟨h.1.1, ?_⟩
                      rintro ⟨h1, h2⟩
                      rcases h.1.2 with h3 | h3
                      · rw [h1] at h3; simp at h3
                      · exact h3 h2)
                    cases ow with
                    | false =>
                      clear hok
                      go_wp2_with fail
                      go_ret
                      exact ⟨ret_int HZ.out.symm, HB2.out⟩
                    | true =>
                      cases bo with
                      | false => exact absurd ⟨rfl, by simp⟩ hok
                      | true =>
                        have m1 : (r.mode != 1) = true := by simp at hok ⊢; omega
                        clear hok
                        go_wp2_with fail
                        go_ret
                        exact ⟨ret_int HZ.out.symm, HB2.out⟩
            | cons x l =>
              by_cases hx : x.kind = 0 ∧ x.value = 0
              · have hs : wasSpec r m = 0 := by unfold wasSpec; rw [hev]; exact if_pos hx
                have HSW := Lib.hid hs
                obtain ⟨eb, eo, rfl, hc⟩ := HEVX.out (by rw [hev]; simp)
                have q := hc 0 (by rw [hev]; simp)
                have e0 : r.events[0]'(by rw [hev]; simp) = x := by simp [hev]
                rw [e0, Nat.zero_mul, Nat.add_zero] at q
                obtain ⟨q0, q1, q2, q3⟩ := q
                unfold IntAt at q0 q1 q2 q3
                have hl1 : 0 < r.events.length := by rw [hev]; simp
                have HXK := Lib.hid hx
                have k0 : (x.kind == 0) = true := by simp [hx.1]
                have k1 : (x.value == 0) = true := by simp [hx.2]
                clear hev hs hc e0 hx
                go_wp2_with fail
                clear r0 r1 r2 r3 r4 q0 q1 q2 q3 k0 k1 hl1
                go_loop [8, 9] (fun o i => ∃ (j : Nat) (bo : Bool), j ≤ r.events.length ∧ i = .int .i64 j ∧ o = .bool bo ∧ Hid (anyOver r.events = (bo || anyOver (r.events.drop j)))) (fun _ i => r.events.length - (intOf i).toNat)
                case atStart => exact ⟨0, false, by omega, rfl, rfl, Lib.hid (by simp)⟩
                case round =>
                  obtain ⟨j, bo, hj, rfl, rfl, HO⟩ := hrel
                  obtain ⟨r0, r1, r2, r3, r4⟩ := HRX.out
                  by_cases hjl : j < r.events.length
                  · obtain ⟨eb', eo', hpe, hc⟩ := HEVX.out (by intro h; rw [h] at hjl; simp at hjl)
                    first | subst hpe | (injection hpe with hpe; injection hpe with hp1 hp2; subst hp1; subst hp2)
                    obtain ⟨q0, q1, q2, q3⟩ := hc j hjl
                    unfold IntAt at q0 q1 q2 q3
                    have hd : r.events.drop j = r.events[j] :: r.events.drop (j + 1) := List.drop_eq_getElem_cons hjl
                    have HDR : Hid (anyOver (r.events.drop j) = (decide (r.events[j].kind = 4) || anyOver (r.events.drop (j + 1)))) := Lib.hid (by rw [hd]; rfl)
                    clear hc hd
                    cases bo with
                    | true =>
                      go_wp2_with fail
                      go_round
                      case rel => exact ⟨j + 1, true, by omega, by go_num, rfl, Lib.hid (by rw [HO.out]; simp)⟩
                      case measure => simp [intOf]; omega
                    | false =>
                      by_cases h4 : r.events[j].kind = 4
                      · have e4 : (r.events[j].kind == 4) = true := by simp [h4]
                        have HH : Hid (anyOver r.events = (true || anyOver (r.events.drop (j + 1)))) := Lib.hid (by rw [HO.out, HDR.out, decide_eq_true h4]; simp)
                        clear h4
                        go_wp2_with fail
                        go_round
                        case rel => exact ⟨j + 1, true, by omega, by go_num, rfl, HH⟩
                        case measure => simp [intOf]; omega
                      · have e4 : (r.events[j].kind == 4) = false := by simp [h4]
                        have HH : Hid (anyOver r.events = (false || anyOver (r.events.drop (j + 1)))) := Lib.hid (by rw [HO.out, HDR.out, decide_eq_false h4]; simp)
                        clear h4
                        go_wp2_with fail
                        go_round
                        case rel => exact ⟨j + 1, false, by omega, by go_num, rfl, HH⟩
                        case measure => simp [intOf]; omega
                  · have HA : Hid (anyOver r.events = bo) := Lib.hid (by rw [HO.out, List.drop_of_length_le (by omega)]; simp [anyOver])
                    have HCX := Lib.hid (HC1.out.ext HEX.out)
                    have z0 := HCX.out.c0; have z1 := HCX.out.c1; have z2 := HCX.out.c2; have z3 := HCX.out.c3; have z4 := HCX.out.c4; unfold IntAt at z0 z1
                    clear HO
                    go_wp2_with fail
                    refine (refOwned_any c _ _ r _ _ ⟨_, _, _, rfl, HCX.out.is⟩ HM.out.1 HRM.out).mono ?_
                    rintro e w2 ⟨rfl, hb2⟩
                    have HB2 := Lib.hid (bthen HBX.out hb2)
                    have HE2 := Lib.hid (HEX.out.trans (Ext.below hb2))
                    have r3 := Ext.below hb2 _ _ r3
                    rw [← HSW.out]
                    have HSX : Hid (auditFrom2 c none 0 rs = ((ownedSpec c r (wasSpec r m) && !(bo && decide (r.mode ≠ 1))) && auditFrom2 c (some r.tick) r.mode (rs.drop (k + 1)))) := Lib.hid (by rw [HS2.out, loud_any2, HA.out, Bool.true_and])
                    obtain ⟨ow, how⟩ : ∃ ow, ow = ownedSpec c r (wasSpec r m) := ⟨_, rfl⟩
                    rw [← how] at HSX ⊢
                    clear hb2 HS2 HA how z0 z1 z2 z3 z4 r0 r1 r2 r4
                    by_cases hok : ow = true ∧ ¬ (bo = true ∧ r.mode ≠ 1)
                    · obtain ⟨rfl, hno⟩ := hok
                      have HN : Hid (auditFrom2 c none 0 rs = auditFrom2 c (prevTick rs (k + 1)) r.mode (rs.drop (k + 1))) := Lib.hid (by
                        rw [HSX.out, HPN.out]
                        have : (bo && decide (r.mode ≠ 1)) = false := by cases bo <;> simp at hno ⊢; omega
                        rw [this]; simp)
                      cases bo with
                      | false =>
                        clear hno
                        go_wp2_with fail
                        go_roundw
                        case rel => exact ⟨k + 1, _, by omega, by go_num, rfl, HN, HB2.out, HE2⟩
                        case measure => simp [intOf]; omega
                      | true =>
                        have m1 : (r.mode != 1) = false := by simp at hno ⊢; omega
                        clear hno
                        go_wp2_with fail
                        go_roundw
                        case rel => exact ⟨k + 1, _, by omega, by go_num, rfl, HN, HB2.out, HE2⟩
                        case measure => simp [intOf]; omega
                    · have HZ : Hid (auditSpec c rs = 2401) := Lib.hid (by
                        rw [HX.out, HSX.out, if_neg]
                        intro h
                        simp only [Bool.and_eq_true, Bool.not_eq_true', Bool.and_eq_false_iff, decide_eq_false_iff_not] at h
                        refine hok ⟨h.1.1, ?_⟩
                        rintro ⟨h1, h2⟩
                        rcases h.1.2 with h3 | h3
                        · rw [h1] at h3; simp at h3
                        · exact h3 h2)
                      cases ow with
                      | false =>
                        clear hok
                        go_wp2_with fail
                        go_ret
                        exact ⟨ret_int HZ.out.symm, HB2.out⟩
                      | true =>
                        cases bo with
                        | false => exact absurd ⟨rfl, by simp⟩ hok
                        | true =>
                          have m1 : (r.mode != 1) = true := by simp at hok ⊢; omega
                          clear hok
                          go_wp2_with fail
                          go_ret
                          exact ⟨ret_int HZ.out.symm, HB2.out⟩
              · have hs : wasSpec r m = m := by unfold wasSpec; rw [hev]; exact if_neg hx
                have HSW := Lib.hid hs
                obtain ⟨eb, eo, rfl, hc⟩ := HEVX.out (by rw [hev]; simp)
                have q := hc 0 (by rw [hev]; simp)
                have e0 : r.events[0]'(by rw [hev]; simp) = x := by simp [hev]
                rw [e0, Nat.zero_mul, Nat.add_zero] at q
                obtain ⟨q0, q1, q2, q3⟩ := q
                unfold IntAt at q0 q1 q2 q3
                have hl1 : 0 < r.events.length := by rw [hev]; simp
                have HXK := Lib.hid hx
                clear hev hs hc e0 hx
                by_cases hk1 : x.kind = 0
                · have k0 : (x.kind == 0) = true := by simp [hk1]
                  have k1 : (x.value == 0) = false := by have := HXK.out; simp; omega
                  clear hk1
                  go_wp2_with fail
                  clear r0 r1 r2 r3 r4 q0 q1 q2 q3 k0 k1 hl1
                  go_loop [8, 9] (fun o i => ∃ (j : Nat) (bo : Bool), j ≤ r.events.length ∧ i = .int .i64 j ∧ o = .bool bo ∧ Hid (anyOver r.events = (bo || anyOver (r.events.drop j)))) (fun _ i => r.events.length - (intOf i).toNat)
                  case atStart => exact ⟨0, false, by omega, rfl, rfl, Lib.hid (by simp)⟩
                  case round =>
                    obtain ⟨j, bo, hj, rfl, rfl, HO⟩ := hrel
                    obtain ⟨r0, r1, r2, r3, r4⟩ := HRX.out
                    by_cases hjl : j < r.events.length
                    · obtain ⟨eb', eo', hpe, hc⟩ := HEVX.out (by intro h; rw [h] at hjl; simp at hjl)
                      first | subst hpe | (injection hpe with hpe; injection hpe with hp1 hp2; subst hp1; subst hp2)
                      obtain ⟨q0, q1, q2, q3⟩ := hc j hjl
                      unfold IntAt at q0 q1 q2 q3
                      have hd : r.events.drop j = r.events[j] :: r.events.drop (j + 1) := List.drop_eq_getElem_cons hjl
                      have HDR : Hid (anyOver (r.events.drop j) = (decide (r.events[j].kind = 4) || anyOver (r.events.drop (j + 1)))) := Lib.hid (by rw [hd]; rfl)
                      clear hc hd
                      cases bo with
                      | true =>
                        go_wp2_with fail
                        go_round
                        case rel => exact ⟨j + 1, true, by omega, by go_num, rfl, Lib.hid (by rw [HO.out]; simp)⟩
                        case measure => simp [intOf]; omega
                      | false =>
                        by_cases h4 : r.events[j].kind = 4
                        · have e4 : (r.events[j].kind == 4) = true := by simp [h4]
                          have HH : Hid (anyOver r.events = (true || anyOver (r.events.drop (j + 1)))) := Lib.hid (by rw [HO.out, HDR.out, decide_eq_true h4]; simp)
                          clear h4
                          go_wp2_with fail
                          go_round
                          case rel => exact ⟨j + 1, true, by omega, by go_num, rfl, HH⟩
                          case measure => simp [intOf]; omega
                        · have e4 : (r.events[j].kind == 4) = false := by simp [h4]
                          have HH : Hid (anyOver r.events = (false || anyOver (r.events.drop (j + 1)))) := Lib.hid (by rw [HO.out, HDR.out, decide_eq_false h4]; simp)
                          clear h4
                          go_wp2_with fail
                          go_round
                          case rel => exact ⟨j + 1, false, by omega, by go_num, rfl, HH⟩
                          case measure => simp [intOf]; omega
                    · have HA : Hid (anyOver r.events = bo) := Lib.hid (by rw [HO.out, List.drop_of_length_le (by omega)]; simp [anyOver])
                      have HCX := Lib.hid (HC1.out.ext HEX.out)
                      have z0 := HCX.out.c0; have z1 := HCX.out.c1; have z2 := HCX.out.c2; have z3 := HCX.out.c3; have z4 := HCX.out.c4; unfold IntAt at z0 z1
                      clear HO
                      go_wp2_with fail
                      refine (refOwned_any c _ _ r _ _ ⟨_, _, _, rfl, HCX.out.is⟩ HM.out.1 HRM.out).mono ?_
                      rintro e w2 ⟨rfl, hb2⟩
                      have HB2 := Lib.hid (bthen HBX.out hb2)
                      have HE2 := Lib.hid (HEX.out.trans (Ext.below hb2))
                      have r3 := Ext.below hb2 _ _ r3
                      rw [← HSW.out]
                      have HSX : Hid (auditFrom2 c none 0 rs = ((ownedSpec c r (wasSpec r m) && !(bo && decide (r.mode ≠ 1))) && auditFrom2 c (some r.tick) r.mode (rs.drop (k + 1)))) := Lib.hid (by rw [HS2.out, loud_any2, HA.out, Bool.true_and])
                      obtain ⟨ow, how⟩ : ∃ ow, ow = ownedSpec c r (wasSpec r m) := ⟨_, rfl⟩
                      rw [← how] at HSX ⊢
                      clear hb2 HS2 HA how z0 z1 z2 z3 z4 r0 r1 r2 r4
                      by_cases hok : ow = true ∧ ¬ (bo = true ∧ r.mode ≠ 1)
                      · obtain ⟨rfl, hno⟩ := hok
                        have HN : Hid (auditFrom2 c none 0 rs = auditFrom2 c (prevTick rs (k + 1)) r.mode (rs.drop (k + 1))) := Lib.hid (by
                          rw [HSX.out, HPN.out]
                          have : (bo && decide (r.mode ≠ 1)) = false := by cases bo <;> simp at hno ⊢; omega
                          rw [this]; simp)
                        cases bo with
                        | false =>
                          clear hno
                          go_wp2_with fail
                          go_roundw
                          case rel => exact ⟨k + 1, _, by omega, by go_num, rfl, HN, HB2.out, HE2⟩
                          case measure => simp [intOf]; omega
                        | true =>
                          have m1 : (r.mode != 1) = false := by simp at hno ⊢; omega
                          clear hno
                          go_wp2_with fail
                          go_roundw
                          case rel => exact ⟨k + 1, _, by omega, by go_num, rfl, HN, HB2.out, HE2⟩
                          case measure => simp [intOf]; omega
                      · have HZ : Hid (auditSpec c rs = 2401) := Lib.hid (by
                          rw [HX.out, HSX.out, if_neg]
                          intro h
                          simp only [Bool.and_eq_true, Bool.not_eq_true', Bool.and_eq_false_iff, decide_eq_false_iff_not] at h
                          refine hok ⟨h.1.1, ?_⟩
                          rintro ⟨h1, h2⟩
                          rcases h.1.2 with h3 | h3
                          · rw [h1] at h3; simp at h3
                          · exact h3 h2)
                        cases ow with
                        | false =>
                          clear hok
                          go_wp2_with fail
                          go_ret
                          exact ⟨ret_int HZ.out.symm, HB2.out⟩
                        | true =>
                          cases bo with
                          | false => exact absurd ⟨rfl, by simp⟩ hok
                          | true =>
                            have m1 : (r.mode != 1) = true := by simp at hok ⊢; omega
                            clear hok
                            go_wp2_with fail
                            go_ret
                            exact ⟨ret_int HZ.out.symm, HB2.out⟩
                · have k0 : (x.kind == 0) = false := by simp [hk1]
                  clear hk1
                  go_wp2_with fail
                  clear r0 r1 r2 r3 r4 q0 q1 q2 q3 k0 hl1
                  go_loop [8, 9] (fun o i => ∃ (j : Nat) (bo : Bool), j ≤ r.events.length ∧ i = .int .i64 j ∧ o = .bool bo ∧ Hid (anyOver r.events = (bo || anyOver (r.events.drop j)))) (fun _ i => r.events.length - (intOf i).toNat)
                  case atStart => exact ⟨0, false, by omega, rfl, rfl, Lib.hid (by simp)⟩
                  case round =>
                    obtain ⟨j, bo, hj, rfl, rfl, HO⟩ := hrel
                    obtain ⟨r0, r1, r2, r3, r4⟩ := HRX.out
                    by_cases hjl : j < r.events.length
                    · obtain ⟨eb', eo', hpe, hc⟩ := HEVX.out (by intro h; rw [h] at hjl; simp at hjl)
                      first | subst hpe | (injection hpe with hpe; injection hpe with hp1 hp2; subst hp1; subst hp2)
                      obtain ⟨q0, q1, q2, q3⟩ := hc j hjl
                      unfold IntAt at q0 q1 q2 q3
                      have hd : r.events.drop j = r.events[j] :: r.events.drop (j + 1) := List.drop_eq_getElem_cons hjl
                      have HDR : Hid (anyOver (r.events.drop j) = (decide (r.events[j].kind = 4) || anyOver (r.events.drop (j + 1)))) := Lib.hid (by rw [hd]; rfl)
                      clear hc hd
                      cases bo with
                      | true =>
                        go_wp2_with fail
                        go_round
                        case rel => exact ⟨j + 1, true, by omega, by go_num, rfl, Lib.hid (by rw [HO.out]; simp)⟩
                        case measure => simp [intOf]; omega
                      | false =>
                        by_cases h4 : r.events[j].kind = 4
                        · have e4 : (r.events[j].kind == 4) = true := by simp [h4]
                          have HH : Hid (anyOver r.events = (true || anyOver (r.events.drop (j + 1)))) := Lib.hid (by rw [HO.out, HDR.out, decide_eq_true h4]; simp)
                          clear h4
                          go_wp2_with fail
                          go_round
                          case rel => exact ⟨j + 1, true, by omega, by go_num, rfl, HH⟩
                          case measure => simp [intOf]; omega
                        · have e4 : (r.events[j].kind == 4) = false := by simp [h4]
                          have HH : Hid (anyOver r.events = (false || anyOver (r.events.drop (j + 1)))) := Lib.hid (by rw [HO.out, HDR.out, decide_eq_false h4]; simp)
                          clear h4
                          go_wp2_with fail
                          go_round
                          case rel => exact ⟨j + 1, false, by omega, by go_num, rfl, HH⟩
                          case measure => simp [intOf]; omega
                    · have HA : Hid (anyOver r.events = bo) := Lib.hid (by rw [HO.out, List.drop_of_length_le (by omega)]; simp [anyOver])
                      have HCX := Lib.hid (HC1.out.ext HEX.out)
                      have z0 := HCX.out.c0; have z1 := HCX.out.c1; have z2 := HCX.out.c2; have z3 := HCX.out.c3; have z4 := HCX.out.c4; unfold IntAt at z0 z1
                      clear HO
                      go_wp2_with fail
                      refine (refOwned_any c _ _ r _ _ ⟨_, _, _, rfl, HCX.out.is⟩ HM.out.1 HRM.out).mono ?_
                      rintro e w2 ⟨rfl, hb2⟩
                      have HB2 := Lib.hid (bthen HBX.out hb2)
                      have HE2 := Lib.hid (HEX.out.trans (Ext.below hb2))
                      have r3 := Ext.below hb2 _ _ r3
                      rw [← HSW.out]
                      have HSX : Hid (auditFrom2 c none 0 rs = ((ownedSpec c r (wasSpec r m) && !(bo && decide (r.mode ≠ 1))) && auditFrom2 c (some r.tick) r.mode (rs.drop (k + 1)))) := Lib.hid (by rw [HS2.out, loud_any2, HA.out, Bool.true_and])
                      obtain ⟨ow, how⟩ : ∃ ow, ow = ownedSpec c r (wasSpec r m) := ⟨_, rfl⟩
                      rw [← how] at HSX ⊢
                      clear hb2 HS2 HA how z0 z1 z2 z3 z4 r0 r1 r2 r4
                      by_cases hok : ow = true ∧ ¬ (bo = true ∧ r.mode ≠ 1)
                      · obtain ⟨rfl, hno⟩ := hok
                        have HN : Hid (auditFrom2 c none 0 rs = auditFrom2 c (prevTick rs (k + 1)) r.mode (rs.drop (k + 1))) := Lib.hid (by
                          rw [HSX.out, HPN.out]
                          have : (bo && decide (r.mode ≠ 1)) = false := by cases bo <;> simp at hno ⊢; omega
                          rw [this]; simp)
                        cases bo with
                        | false =>
                          clear hno
                          go_wp2_with fail
                          go_roundw
                          case rel => exact ⟨k + 1, _, by omega, by go_num, rfl, HN, HB2.out, HE2⟩
                          case measure => simp [intOf]; omega
                        | true =>
                          have m1 : (r.mode != 1) = false := by simp at hno ⊢; omega
                          clear hno
                          go_wp2_with fail
                          go_roundw
                          case rel => exact ⟨k + 1, _, by omega, by go_num, rfl, HN, HB2.out, HE2⟩
                          case measure => simp [intOf]; omega
                      · have HZ : Hid (auditSpec c rs = 2401) := Lib.hid (by
                          rw [HX.out, HSX.out, if_neg]
                          intro h
                          simp only [Bool.and_eq_true, Bool.not_eq_true', Bool.and_eq_false_iff, decide_eq_false_iff_not] at h
                          refine hok ⟨h.1.1, ?_⟩
                          rintro ⟨h1, h2⟩
                          rcases h.1.2 with h3 | h3
                          · rw [h1] at h3; simp at h3
                          · exact h3 h2)
                        cases ow with
                        | false =>
                          clear hok
                          go_wp2_with fail
                          go_ret
                          exact ⟨ret_int HZ.out.symm, HB2.out⟩
                        | true =>
                          cases bo with
                          | false => exact absurd ⟨rfl, by simp⟩ hok
                          | true =>
                            have m1 : (r.mode != 1) = true := by simp at hok ⊢; omega
                            clear hok
                            go_wp2_with fail
                            go_ret
                            exact ⟨ret_int HZ.out.symm, HB2.out⟩
      · have hfin : auditFrom2 c none 0 rs = true := by
          rw [HD.out, List.drop_of_length_le (by omega)]; rfl
        have HF := Lib.hid hfin
        clear hfin HD
        go_wp2_with fail
        go_ret
        exact ⟨ret_int (by rw [HX.out, if_pos HF.out]), HB.out⟩
end Go.Proofs.Ytfhebonhcolbdaa
