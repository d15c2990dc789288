/- Who may run: the reference's answer. -/
import Derived.Test.YthnecccakeminaaAdm4
set_option linter.unusedVariables false
set_option linter.unusedSimpArgs false
namespace Go.Proofs.Ythnecccakeminaa
open Go.RowKit

set_option maxRecDepth 100000 in
set_option maxHeartbeats 2000000 in
theorem refAdmit_any (c : Config) (v : Value) (w : World) (hc : CfgV w v c) :
    Calls Try.prog 14 #[v] w fun e w' => e = .returned (.int .i64 (admitSpec c)) ∧ Below w.heap.size w w' := by
  obtain ⟨pv, wv, ov, rfl, hcfg⟩ := hc
  have HC := Lib.hid hcfg
  obtain ⟨pa, pcap, rfl, hp1, hp2, hp3, hp4⟩ := hcfg.parts
  have HP := Lib.hid hp4
  clear hp4 hcfg
  go_enter Try.func14, Try.ntmps14
  go_wp2_with fail
  refine (refCheck_any c _ _ ⟨_, _, ov, rfl, HC.out.ext (Ext.alloc _ _)⟩).mono ?_
  rintro e w1 ⟨rfl, hb1⟩
  have HB1 := Lib.hid (bthen (balloc _ _) hb1)
  have HX := Lib.hid ((cfg_box w c _ _ _ 26 HC.out).ext (Ext.below hb1))
  have z0 := HX.out.c0; have z1 := HX.out.c1; have z2 := HX.out.c2; have z3 := HX.out.c3; have z4 := HX.out.c4; unfold IntAt at z0 z1
  clear hb1
  by_cases hk : checkCfg c = 0
  · have e1 : (checkCfg c != 0) = false := by rw [hk]; rfl
    have HK := Lib.hid hk
    have HA := Lib.hid (show admitSpec c = if lateFrom c 0 c.parts = true then 901 else if noneFrom c 0 c.parts = true then 902 else 0 by unfold admitSpec; rw [if_neg (by omega)])
    have h8 : c.parts.length ≤ 8 := (check_ok hk).2.2.2.2.2.1
    clear hk
    go_wp2_with fail
    clear z0 z1 z2 z3 z4
    go_loopw [4, 5] (fun q j wr => ∃ (k : Nat) (nb : Bool), k ≤ c.parts.length ∧ j = .int .i64 k ∧ q = .bool nb ∧ Hid (lateFrom c 0 c.parts = lateFrom c k (c.parts.drop k) ∧ noneFrom c 0 c.parts = (nb || noneFrom c k (c.parts.drop k))) ∧ Below w1.heap.size w1 wr) (fun _ j _ => c.parts.length - (intOf j).toNat)
    case atStart => exact ⟨0, false, by omega, rfl, rfl, Lib.hid (by simp), Below.refl _ _⟩
    case round =>
      obtain ⟨k, nb, hk, rfl, rfl, HG, hB⟩ := hrel
      have HB := Lib.hid hB
      clear hB
      have HX1 := Lib.hid (HX.out.ext (Ext.below HB.out))
      have z0 := HX1.out.c0; have z1 := HX1.out.c1; have z2 := HX1.out.c2; have z3 := HX1.out.c3; have z4 := HX1.out.c4; unfold IntAt at z0 z1
      by_cases hlt : k < c.parts.length
      · obtain ⟨b, off, rfl, hcell⟩ := HP.out (by intro h; rw [h] at hlt; simp at hlt)
        obtain ⟨y0, tv, cv, y1, y2, hpi⟩ := PartAt.ext ((Ext.below HB1.out).trans (Ext.below HB.out)) (hcell k hlt)
        obtain ⟨ta, tc, rfl, t2, t3, t4, -⟩ := hpi.tasks
        unfold IntAt at y0
        have hst := lateFrom_step c c.parts k hlt
        have hsn := noneFrom_step c c.parts k hlt
        rw [← HG.out.1] at hst
        have HS := Lib.hid (And.intro hst hsn)
        have h6 := (tasks_ok (check_tasks HK.out _ (List.getElem_mem hlt))).2
        have HLV := Lib.hid (check_level HK.out _ (List.getElem_mem hlt))
        have HY := Lib.hid y1
        clear hst hsn hcell hpi y2
        by_cases hl : c.parts[k].level = 0
        · have hst := HS.out.1
          rw [decide_eq_false (by omega : ¬ c.parts[k].level = 1), Bool.false_and, Bool.false_or] at hst
          rw [hl] at y0
          have HG1 := Lib.hid hst
          have HL := Lib.hid hl
          clear hst hl
          cases nb with
          | true =>
            have HG2 := Lib.hid (show noneFrom c 0 c.parts = (true || noneFrom c (k + 1) (c.parts.drop (k + 1))) by rw [HG.out.2]; simp)
            go_wp2_with fail
            go_roundw
            case rel => exact ⟨k + 1, true, by omega, by go_num, rfl, Lib.hid ⟨HG1.out, HG2.out⟩, HB.out⟩
            case measure => simp [intOf]; omega
          | false =>
            go_wp2_with fail
            refine (refShare_any c _ k _ ⟨_, _, _, rfl, HX1.out.is⟩ HK.out).mono ?_
            rintro e w3 ⟨rfl, hb3⟩
            have HB3 := Lib.hid (bthen HB.out hb3)
            clear hb3 z0 z1 z2 z3 z4 y0 y1 HX1
            have HG2 := Lib.hid (show noneFrom c 0 c.parts = ((shareOf k c.windows == 0) || noneFrom c (k + 1) (c.parts.drop (k + 1))) by rw [HG.out.2, HS.out.2, HL.out, show (shareOf (k : Int) c.windows == 0) = decide (shareOf (k : Int) c.windows = 0) from rfl]; simp)
            go_wp2_with fail
            go_roundw
            case rel => exact ⟨k + 1, _, by omega, by go_num, rfl, Lib.hid ⟨HG1.out, HG2.out⟩, HB3.out⟩
            case measure => simp [intOf]; omega
        · have hl1 : c.parts[k].level = 1 := by have := HLV.out; omega
          have HG2 := Lib.hid (show noneFrom c 0 c.parts = (nb || noneFrom c (k + 1) (c.parts.drop (k + 1))) by rw [HG.out.2, HS.out.2, decide_eq_false hl]; simp)
          have HST := Lib.hid (show lateFrom c 0 c.parts = (lateTasks c k 0 c.parts[k].tasks || lateFrom c (k + 1) (c.parts.drop (k + 1))) by rw [HS.out.1, hl1]; simp)
          have HL := Lib.hid hl1
          rw [hl1] at y0
          clear hl hl1
          go_wp2_with fail
          clear z0 z1 z2 z3 z4 y0 y1
          obtain ⟨wp, rfl⟩ : ∃ wp : World, wp = wr := ⟨_, rfl⟩
          go_loopw [6] (fun j wr => ∃ m : Nat, m ≤ c.parts[k].tasks.length ∧ j = .int .i64 m ∧ Hid (lateFrom c 0 c.parts = (lateTasks c k m (c.parts[k].tasks.drop m) || lateFrom c (k + 1) (c.parts.drop (k + 1)))) ∧ Below wp.heap.size wp wr) (fun j _ => c.parts[k].tasks.length - (intOf j).toNat)
          case atStart => exact ⟨0, by omega, rfl, Lib.hid (by rw [HST.out, List.drop_zero]), Below.refl _ _⟩
          case round =>
            obtain ⟨m, hm, rfl, HM, hBm⟩ := hrel
            have HBm := Lib.hid hBm
            have y1 := Ext.below hBm _ _ HY.out
            have HXm := Lib.hid (HX1.out.ext (Ext.below hBm))
            clear hBm
            have z0 := HXm.out.c0; have z1 := HXm.out.c1; have z2 := HXm.out.c2; have z3 := HXm.out.c3; have z4 := HXm.out.c4; unfold IntAt at z0 z1
            by_cases hml : m < c.parts[k].tasks.length
            · have HT := Lib.hid (lateTasks_step c k c.parts[k].tasks m hml)
              go_wp2_with fail
              refine (refResp_any c _ k m _ ⟨_, _, _, rfl, HXm.out.is⟩ HK.out hlt hml).mono ?_
              rintro e w3 ⟨rfl, hb3⟩
              have HB3 := Lib.hid (bthen HBm.out hb3)
              clear hb3 z0 z1 z2 z3 z4 y1 HXm
              rcases respIn_err c k m with hz | hz
              · have HG3 := Lib.hid (show lateFrom c 0 c.parts = (lateTasks c k (m + 1) (c.parts[k].tasks.drop (m + 1)) || lateFrom c (k + 1) (c.parts.drop (k + 1))) by rw [HM.out, HT.out, hz]; simp)
                rw [hz]
                clear hz
                go_wp2_with fail
                go_roundw
                case rel => exact ⟨m + 1, by omega, by go_num, HG3, HB3.out⟩
                case measure => simp [intOf]; omega
              · have HG3 := Lib.hid (show lateFrom c 0 c.parts = true by rw [HM.out, HT.out, hz]; simp)
                rw [hz]
                clear hz
                go_wp2_with fail
                go_ret
                exact ⟨ret_int (by rw [HA.out, HG3.out]; rfl), bthen HB1.out (bthen HB.out HB3.out)⟩
            · have hfin : lateFrom c 0 c.parts = lateFrom c (k + 1) (c.parts.drop (k + 1)) := by
                rw [HM.out, List.drop_of_length_le (by omega)]; simp [lateTasks]
              have HF := Lib.hid hfin
              clear hfin
              go_wp2_with fail
              go_roundw
              case rel => exact ⟨k + 1, nb, by omega, by go_num, rfl, Lib.hid ⟨HF.out, HG2.out⟩, bthen HB.out HBm.out⟩
              case measure => simp [intOf]; omega
      · have hfin : lateFrom c 0 c.parts = false := by
          rw [HG.out.1, List.drop_of_length_le (by omega)]; rfl
        have hfin2 : noneFrom c 0 c.parts = nb := by
          rw [HG.out.2, List.drop_of_length_le (by omega)]; simp [noneFrom]
        have HF := Lib.hid (And.intro hfin hfin2)
        clear hfin hfin2
        cases nb with
        | true =>
          go_wp2_with fail
          go_ret
          exact ⟨ret_int (by rw [HA.out, HF.out.1, HF.out.2]; rfl), bthen HB1.out HB.out⟩
        | false =>
          go_wp2_with fail
          go_ret
          exact ⟨ret_int (by rw [HA.out, HF.out.1, HF.out.2]; rfl), bthen HB1.out HB.out⟩
  · have HA := Lib.hid (show admitSpec c = checkCfg c by unfold admitSpec; rw [if_pos hk])
    have e1 : (checkCfg c != 0) = true := by simpa using hk
    clear hk
    go_wp2_with fail
    go_ret
    exact ⟨ret_int HA.out.symm, HB1.out⟩
end Go.Proofs.Ythnecccakeminaa
