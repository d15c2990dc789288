/- What the reference answers of a configuration. -/
import Derived.Test.YthnecccakeminaaRef3
set_option linter.unusedVariables false
set_option linter.unusedSimpArgs false
namespace Go.Proofs.Ythnecccakeminaa
open Go.RowKit

theorem checkCfg_eq (c : Config) : checkCfg c =
    if c.frame < 1 ∨ c.frame > 256 ∨ c.quiet < 1 ∨ c.quiet > 16 then 501
    else if c.parts.length < 1 ∨ c.parts.length > 8 ∨ c.parts.all levelMay = false then 502
    else if c.parts.all tasksMay = false then 503
    else if windowsMay c = false then 504
    else if (decide (c.ports.length ≤ 8) && c.ports.all (portMay c.parts)) = false then 505
    else if c.parts.all (fun p => codeMay p.code) = false then 506
    else 0 := by
  have h : ∀ {α : Type} (p : α → Bool) (l : List α), (l.any (fun x => !p x) = true) ↔ (l.all p = false) := by
    intro α p l
    rw [List.any_eq_true, List.all_eq_false]
    simp
  unfold checkCfg
  simp only [h levelMay, h tasksMay, h (portMay c.parts), h (fun p : Part => codeMay p.code)]
  have e : (c.ports.length > 8 ∨ c.ports.all (portMay c.parts) = false) ↔ ((decide (c.ports.length ≤ 8) && c.ports.all (portMay c.parts)) = false) := by
    rw [Bool.and_eq_false_iff, decide_eq_false_iff_not]
    constructor
    · rintro (h | h)
      · left; omega
      · right; exact h
    · rintro (h | h)
      · left; omega
      · right; exact h
  simp only [e]

set_option maxRecDepth 100000 in
set_option maxHeartbeats 4000000 in
theorem refCheck_any (c : Config) (v : Value) (w : World) (hc : CfgV w v c) :
    Calls Try.prog 25 #[v] w fun e w' => e = .returned (.int .i64 (checkCfg c)) ∧ Below w.heap.size w w' := by
  obtain ⟨pv, wv, ov, rfl, hcfg⟩ := hc
  have HBX := Lib.hid (balloc w (.cells #[.int .i64 c.frame, .int .i64 c.quiet, pv, wv, ov] 26))
  have hcc := cfg_box w c _ _ _ 26 hcfg
  by_cases hb1 : c.frame < 1 ∨ c.frame > 256 ∨ c.quiet < 1 ∨ c.quiet > 16
  · have HX : Hid (checkCfg c = 501) := Lib.hid (by rw [checkCfg_eq, if_pos hb1])
    have hb1 := Lib.hid hb1
    clear hcc hcfg
    go_enter Try.func25, Try.ntmps25
    go_wp2_with fail
    all_goals first
      | (go_ret; exact ⟨ret_int HX.out.symm, HBX.out⟩)
      | (exfalso; have := hb1.out; omega)
  obtain ⟨wb, hwb⟩ : ∃ wb, wb = w.alloc (.cells #[.int .i64 c.frame, .int .i64 c.quiet, pv, wv, ov] 26) := ⟨_, rfl⟩
  obtain ⟨g, hg⟩ : ∃ g, g = w.heap.size := ⟨_, rfl⟩
  rw [← hwb, ← hg] at hcc
  rw [← hwb] at HBX
  obtain ⟨pa, pcap, rfl, hw1, hw2, hw3, hw4⟩ := hcc.is.parts
  have HW := Lib.hid hw4
  have HC := Lib.hid hcc
  clear hw4 hcc hcfg
  have hl1 : c.parts.length ≤ 1000000000000000 := by omega
  have f1 : 1 ≤ c.frame := by omega
  have f2 : c.frame ≤ 256 := by omega
  have f3 : 1 ≤ c.quiet := by omega
  have f4 : c.quiet ≤ 16 := by omega
  have HN1 := Lib.hid hb1
  clear hb1
  go_enter Try.func25, Try.ntmps25
  go_wp2_with fail
  rw [← hwb, ← hg]
  clear hwb hg
  go_loopw [3, 4, 5, 6] (fun t cd lv i wr => ∃ (k : Nat) (b3 b4 b5 : Bool), k ≤ c.parts.length ∧ i = .int .i64 k ∧ t = .bool b3 ∧ cd = .bool b4 ∧ lv = .bool b5 ∧ Hid (c.parts.all tasksMay = (b3 && (c.parts.drop k).all tasksMay)) ∧ Hid (c.parts.all (fun p => codeMay p.code) = (b4 && (c.parts.drop k).all (fun p => codeMay p.code))) ∧ Hid (c.parts.all levelMay = (b5 && (c.parts.drop k).all levelMay)) ∧ Below wb.heap.size wb wr) (fun _ _ _ i _ => c.parts.length - (intOf i).toNat)
  case atStart => exact ⟨0, true, true, true, by omega, rfl, rfl, rfl, rfl, Lib.hid (by simp), Lib.hid (by simp), Lib.hid (by simp), Below.refl _ _⟩
  case round =>
    obtain ⟨k, b3, b4, b5, hk, rfl, rfl, rfl, rfl, HD3, HD4, HD5, hB⟩ := hrel
    have HB := Lib.hid hB
    have hcr := HC.out.ext (Ext.below hB)
    have HCR := Lib.hid hcr
    have z2 := hcr.c2
    clear hB hcr
    by_cases hlt : k < c.parts.length
    · obtain ⟨b, off, rfl, hcell⟩ := HW.out (by intro h; rw [h] at hlt; simp at hlt)
      obtain ⟨y0, tv, cv, y1, y2, hpi⟩ := PartAt.ext (Ext.below HB.out) (hcell k hlt)
      unfold IntAt at y0
      clear hcell
      have hs3 := all_step tasksMay c.parts k hlt
      have hs4 := all_step (fun p => codeMay p.code) c.parts k hlt
      have hs5 := all_step levelMay c.parts k hlt
      rw [hs3] at HD3
      rw [hs4] at HD4
      rw [hs5] at HD5
      have HS3 := HD3
      have HS4 := HD4
      have HS5 := HD5
      have HPI := Lib.hid hpi
      have Y2 := Lib.hid y2
      have Z2 := Lib.hid z2
      clear hs3 hs4 hs5 HD3 HD4 HD5 hpi
      have hlev : (c.parts[k].level == 0) = true ∨ ((c.parts[k].level == 0) = false ∧ (c.parts[k].level == 1) = true) ∨ ((c.parts[k].level == 0) = false ∧ (c.parts[k].level == 1) = false) := by
        cases (c.parts[k].level == 0) <;> cases (c.parts[k].level == 1) <;> simp
      rcases hlev with e1 | ⟨e1, e2⟩ | ⟨e1, e2⟩
      all_goals cases b5
      all_goals
        cases b3 with
        | false =>
          cases b4 with
          | false =>
            go_wp2_with fail
            go_roundw
            case rel => exact ⟨k + 1, _, _, _, by omega, by go_num, rfl, rfl, rfl, Lib.hid (by rw [HS3.out]; simp), Lib.hid (by rw [HS4.out]; simp), Lib.hid (by rw [HS5.out]; (try simp only [beq_iff_eq, beq_eq_false_iff_ne, ne_eq] at *); simp [levelMay, *]), HB.out⟩
            case measure => simp [intOf]; omega
          | true =>
            go_wp2_with fail
            refine (refCodeMay_any cv c.parts[k].code _ (HPI.out.code)).mono ?_
            rintro e w2 ⟨rfl, hb2⟩
            go_wp2_with fail
            go_roundw
            case rel => exact ⟨k + 1, _, _, _, by omega, by go_num, rfl, rfl, rfl, Lib.hid (by rw [HS3.out]; simp), Lib.hid (by rw [HS4.out]; simp), Lib.hid (by rw [HS5.out]; (try simp only [beq_iff_eq, beq_eq_false_iff_ne, ne_eq] at *); simp [levelMay, *]), bthen HB.out hb2⟩
            case measure => simp [intOf]; omega
        | true =>
          go_wp2_with fail
          refine (refPartTasks_any c.parts[k] tv cv _ HPI.out).mono ?_
          rintro e w1 ⟨rfl, hb1⟩
          clear y2 z2
          have y2 := Ext.below hb1 _ _ Y2.out
          have z2 := Ext.below hb1 _ _ Z2.out
          cases b4 with
          | false =>
            go_wp2_with fail
            go_roundw
            case rel => exact ⟨k + 1, _, _, _, by omega, by go_num, rfl, rfl, rfl, Lib.hid (by rw [HS3.out]; simp), Lib.hid (by rw [HS4.out]; simp), Lib.hid (by rw [HS5.out]; (try simp only [beq_iff_eq, beq_eq_false_iff_ne, ne_eq] at *); simp [levelMay, *]), bthen HB.out hb1⟩
            case measure => simp [intOf]; omega
          | true =>
            go_wp2_with fail
            refine (refCodeMay_any cv c.parts[k].code _ (HPI.out.code.ext (Ext.below hb1))).mono ?_
            rintro e w2 ⟨rfl, hb2⟩
            go_wp2_with fail
            go_roundw
            case rel => exact ⟨k + 1, _, _, _, by omega, by go_num, rfl, rfl, rfl, Lib.hid (by rw [HS3.out]; simp), Lib.hid (by rw [HS4.out]; simp), Lib.hid (by rw [HS5.out]; (try simp only [beq_iff_eq, beq_eq_false_iff_ne, ne_eq] at *); simp [levelMay, *]), bthen HB.out (bthen hb1 hb2)⟩
            case measure => simp [intOf]; omega
    · rw [List.drop_of_length_le (by omega), List.all_nil, Bool.and_true] at HD3 HD4 HD5
      have HXX := Lib.hid (checkCfg_eq c)
      rw [HD3.out, HD4.out, HD5.out, if_neg HN1.out] at HXX
      clear HD3 HD4 HD5
      by_cases hn : c.parts.length < 1 ∨ c.parts.length > 8
      · have HX : Hid (checkCfg c = 502) := Lib.hid (by rw [HXX.out, if_pos (by omega)])
        have HN := Lib.hid hn
        clear hn
        go_wp2_with fail
        all_goals first
          | (go_ret; exact ⟨ret_int HX.out.symm, bthen HBX.out HB.out⟩)
          | (exfalso; have := HN.out; omega)
      have n1 : 1 ≤ c.parts.length := by omega
      have n2 : c.parts.length ≤ 8 := by omega
      clear hn
      cases b5 with
      | false =>
        have HX : Hid (checkCfg c = 502) := Lib.hid (by rw [HXX.out, if_pos (by simp)])
        go_wp2_with fail
        go_ret
        exact ⟨ret_int HX.out.symm, bthen HBX.out HB.out⟩
      | true =>
      rw [if_neg (by rintro (h | h | h); omega; omega; exact Bool.noConfusion h)] at HXX
      cases b3 with
      | false =>
        have HX : Hid (checkCfg c = 503) := Lib.hid (by rw [HXX.out]; simp)
        go_wp2_with fail
        go_ret
        exact ⟨ret_int HX.out.symm, bthen HBX.out HB.out⟩
      | true =>
      rw [if_neg (by simp)] at HXX
      clear z2
      have z0 := HCR.out.c0; have z1 := HCR.out.c1; have z2 := HCR.out.c2; have z3 := HCR.out.c3; have z4 := HCR.out.c4; unfold IntAt at z0 z1
      go_wp2_with fail
      refine (refWindows_any c _ _ ⟨_, _, _, rfl, HCR.out.is⟩).mono ?_
      rintro e w1 ⟨rfl, hb1⟩
      have HC1 := Lib.hid (HCR.out.ext (Ext.below hb1))
      have HB1 := Lib.hid (bthen HB.out hb1)
      clear z0 z1 z2 z3 z4 hb1
      have z0 := HC1.out.c0; have z1 := HC1.out.c1; have z2 := HC1.out.c2; have z3 := HC1.out.c3; have z4 := HC1.out.c4; unfold IntAt at z0 z1
      cases hW : windowsMay c with
      | false =>
        have HX : Hid (checkCfg c = 504) := Lib.hid (by rw [HXX.out, if_pos hW])
        clear hW
        go_wp2_with fail
        go_ret
        exact ⟨ret_int HX.out.symm, bthen HBX.out HB1.out⟩
      | true =>
      rw [if_neg (by rw [hW]; simp)] at HXX
      clear hW
      go_wp2_with fail
      refine (refPortsMay_any c _ _ ⟨_, _, _, rfl, HC1.out.is⟩).mono ?_
      rintro e w2 ⟨rfl, hb2⟩
      have HB2 := Lib.hid (bthen HB1.out hb2)
      clear z0 z1 z2 z3 z4 hb2
      cases hP : (decide (c.ports.length ≤ 8) && c.ports.all (portMay c.parts)) with
      | false =>
        have HX : Hid (checkCfg c = 505) := Lib.hid (by rw [HXX.out, if_pos hP])
        clear hP
        go_wp2_with fail
        go_ret
        exact ⟨ret_int HX.out.symm, bthen HBX.out HB2.out⟩
      | true =>
      rw [if_neg (by rw [hP]; simp)] at HXX
      clear hP
      cases b4 with
      | false =>
        have HX : Hid (checkCfg c = 506) := Lib.hid (by rw [HXX.out]; simp)
        go_wp2_with fail
        go_ret
        exact ⟨ret_int HX.out.symm, bthen HBX.out HB2.out⟩
      | true =>
        have HX : Hid (checkCfg c = 0) := Lib.hid (by rw [HXX.out]; simp)
        go_wp2_with fail
        go_ret
        exact ⟨ret_int HX.out.symm, bthen HBX.out HB2.out⟩
end Go.Proofs.Ythnecccakeminaa
