/- In how many ticks a job is done: the program's answer and the reference's. -/
import Derived.Test.YthnecccakeminaaAdm2
import Derived.Test.YthnecccakeminaaSup2
import Derived.Test.YthnecccakeminaaRef7
set_option linter.unusedVariables false
set_option linter.unusedSimpArgs false
namespace Go.Proofs.Ythnecccakeminaa
open Go.RowKit

def part0 : Part := ⟨0, [], []⟩
def tasksOf (c : Config) (p : Int) : List Task := (c.parts.getD p.toNat part0).tasks
def respGo (c : Config) (p : Int) (ts : List Task) (i : Nat) : Nat → Nat → Int × Int
  | _, 0 => (0, 901)
  | l, m + 1 => if boundOf ts i l ≤ (leastSpec c p l).1 then ((l : Int), 0) else respGo c p ts i (l + 1) m
def respIn (c : Config) (p : Int) (i : Nat) : Int × Int := respGo c p (tasksOf c p) i 1 ((tasksOf c p).getD i task0).deadline.toNat
def respSpec (c : Config) (p i : Int) : Int × Int :=
  if checkCfg c ≠ 0 ∨ levelOf c.parts p ≠ 1 ∨ i < 0 ∨ i ≥ (tasksOf c p).length then (0, 900) else respIn c p i.toNat
theorem check_tasks {c : Config} (h : checkCfg c = 0) (x : Part) (hx : x ∈ c.parts) : tasksMay x = true := by
  unfold checkCfg at h
  split at h
  · omega
  split at h
  · omega
  split at h
  · omega
  rename_i h1 h2 h3
  have h4 := List.any_eq_false.1 (Bool.not_eq_true _ ▸ h3) x hx
  simpa using h4
theorem check_level {c : Config} (h : checkCfg c = 0) (x : Part) (hx : x ∈ c.parts) : x.level = 0 ∨ x.level = 1 := by
  unfold checkCfg at h
  split at h
  · omega
  split at h
  · omega
  rename_i h1 h2
  have h3 : c.parts.any (fun p => !levelMay p) = false := by
    cases hh : c.parts.any (fun p => !levelMay p)
    · rfl
    · exact absurd (Or.inr (Or.inr hh)) h2
  have h4 := List.any_eq_false.1 h3 x hx
  unfold levelMay at h4
  cases hd : decide (x.level = 0 ∨ x.level = 1) with
  | true => exact of_decide_eq_true hd
  | false => rw [hd] at h4; exact absurd rfl h4
theorem tasks_ok {x : Part} (h : tasksMay x = true) : tasksOk x.tasks = true ∧ x.tasks.length ≤ 6 := by
  rw [tasksMay_eq] at h
  simp only [Bool.and_eq_true, decide_eq_true_eq] at h
  exact ⟨h.2.2, h.2.1⟩
theorem tasksOf_at (c : Config) (P : Nat) (h : P < c.parts.length) : tasksOf c P = c.parts[P].tasks := by
  unfold tasksOf
  simp [List.getD, List.getElem?_eq_getElem h]
theorem levelOf_at (c : Config) (P : Nat) (h : P < c.parts.length) : levelOf c.parts P = c.parts[P].level := by
  unfold levelOf
  rw [if_neg (by omega)]
  simp [List.getD, List.getElem?_eq_getElem h]
theorem respSpec_bad {c : Config} {p i : Int} (h : checkCfg c ≠ 0 ∨ levelOf c.parts p ≠ 1 ∨ i < 0 ∨ i ≥ (tasksOf c p).length) : respSpec c p i = (0, 900) := by
  unfold respSpec; rw [if_pos h]
theorem respIn_at (c : Config) (P I : Nat) (ts : List Task) (D : Nat) (hP : P < c.parts.length) (ht : c.parts[P].tasks = ts) (hI : I < ts.length) (hD : ts[I].deadline = (D : Int)) : respIn c P I = respGo c P ts I 1 D := by
  unfold respIn
  rw [tasksOf_at c P hP, ht]
  simp [List.getD, List.getElem?_eq_getElem hI, hD]
theorem respSpec_in {c : Config} {P I : Nat} (hk : checkCfg c = 0) (hP : P < c.parts.length) (hl : c.parts[P].level = 1) (hI : I < c.parts[P].tasks.length) : respSpec c P I = respIn c P I := by
  unfold respSpec
  rw [levelOf_at c P hP, tasksOf_at c P hP, if_neg (by omega)]
  rfl

set_option maxRecDepth 100000 in
set_option maxHeartbeats 2000000 in
theorem response_any (c : Config) (v : Value) (p i : Int) (w : World) (hc : CfgV w v c) :
    Calls Try.prog 10 #[v, .int .i64 p, .int .i64 i] w fun e w' => e = .returned (.tuple #[.int .i64 (respSpec c p i).1, .int .i64 (respSpec c p i).2]) ∧ Below w.heap.size w w' := by
  obtain ⟨pv, wv, ov, rfl, hcfg⟩ := hc
  have HC := Lib.hid hcfg
  obtain ⟨pa, pcap, rfl, hp1, hp2, hp3, hp4⟩ := hcfg.parts
  have HP := Lib.hid hp4
  clear hp4 hcfg
  go_enter Try.func10, Try.ntmps10
  go_wp2_with fail
  refine (check_any c _ _ ⟨_, _, ov, rfl, HC.out.ext (Ext.alloc _ _)⟩).mono ?_
  rintro e w1 ⟨rfl, hb1⟩
  have HB1 := Lib.hid (bthen (balloc _ _) hb1)
  have HX := Lib.hid ((cfg_box w c _ _ _ 26 HC.out).ext (Ext.below hb1))
  have z0 := HX.out.c0; have z1 := HX.out.c1; have z2 := HX.out.c2; have z3 := HX.out.c3; have z4 := HX.out.c4; unfold IntAt at z0 z1
  clear hb1
  by_cases hk : checkCfg c = 0
  · have e1 : (checkCfg c != 0) = false := by rw [hk]; rfl
    by_cases hp : p < 0 ∨ p ≥ c.parts.length
    · have HS : Hid (respSpec c p i = (0, 900)) := Lib.hid (respSpec_bad (Or.inr (Or.inl (by unfold levelOf; rw [if_pos hp]; decide))))
      have HPP := Lib.hid hp
      clear hk hp
      go_wp2_with fail
      all_goals first
        | (go_ret2; exact ⟨ret_pair HS.out, HB1.out⟩)
        | (exfalso; have := HPP.out; omega)
    · obtain ⟨P, rfl⟩ := Int.eq_ofNat_of_zero_le (show 0 ≤ p by omega)
      have hP : P < c.parts.length := by omega
      obtain ⟨b, off, rfl, hcell⟩ := HP.out (by intro h; rw [h] at hP; simp at hP)
      obtain ⟨y0, tv, cv, y1, y2, hpi⟩ := PartAt.ext (Ext.below HB1.out) (hcell P hP)
      obtain ⟨ts, hts⟩ : ∃ ts, ts = c.parts[P].tasks := ⟨_, rfl⟩
      have hT := hpi.tasks
      rw [← hts] at hT
      have HT := Lib.hid hT
      obtain ⟨ta, tc, rfl, t2, t3, t4, t5⟩ := hT
      obtain ⟨hok, h6⟩ := tasks_ok (check_tasks hk _ (List.getElem_mem hP))
      rw [← hts] at hok h6
      unfold IntAt at y0
      clear hcell hpi hp
      by_cases hl : c.parts[P].level = 1
      · have e2 : (c.parts[P].level != 1) = false := by rw [hl]; rfl
        rw [hl] at y0
        by_cases hi : i < 0 ∨ i ≥ ts.length
        · have HS : Hid (respSpec c P i = (0, 900)) := Lib.hid (respSpec_bad (Or.inr (Or.inr (by rw [tasksOf_at c P hP, ← hts]; exact hi))))
          have HI := Lib.hid hi
          clear hk hi t5 hts hok
          go_wp2_with fail
          all_goals first
            | (go_ret2; exact ⟨ret_pair HS.out, HB1.out⟩)
            | (exfalso; have := HI.out; omega)
        · obtain ⟨I, rfl⟩ := Int.eq_ofNat_of_zero_le (show 0 ≤ i by omega)
          have hI : I < ts.length := by omega
          obtain ⟨tb, toff, rfl, tcell⟩ := t5 (by intro h; rw [h] at hI; simp at hI)
          have hm := may_cases ts[I] (tasksOk_all ts hok _ (List.getElem_mem hI))
          obtain ⟨D, hD⟩ := Int.eq_ofNat_of_zero_le (show 0 ≤ ts[I].deadline by omega)
          have hD1 : 1 ≤ D := by omega
          have hD2 : D ≤ 1024 := by omega
          have q2 := (tcell I hI).2.2.1
          unfold IntAt at q2
          rw [hD] at q2
          have HQ := Lib.hid q2
          have HR := Lib.hid (show respSpec c P I = respGo c P ts I 1 D by rw [respSpec_in hk hP hl (by rw [← hts]; exact hI)]; exact respIn_at c P I ts D hP hts.symm hI hD)
          have HOK := Lib.hid hok
          clear hk hi hts hok tcell hm hD hl
          have d2 : decide (c.parts.length ≤ P) = false := decide_eq_false (by omega)
          have d4 : decide (ts.length ≤ I) = false := decide_eq_false (by omega)
          go_wp2_with fail
          clear q2 y0 y1 y2
          go_loopw [9] (fun j wr => ∃ k : Nat, 1 ≤ k ∧ k ≤ D + 1 ∧ j = .int .i64 k ∧ Hid (respSpec c P I = respGo c P ts I k (D + 1 - k)) ∧ Below w1.heap.size w1 wr) (fun j _ => D + 1 - (intOf j).toNat)
          case atStart => exact ⟨1, by omega, by omega, rfl, HR, Below.refl _ _⟩
          case round =>
            obtain ⟨k, hk1, hk2, rfl, HG, hB⟩ := hrel
            have HB := Lib.hid hB
            have z0 := Ext.below hB _ _ z0
            have z1 := Ext.below hB _ _ z1
            have z2 := Ext.below hB _ _ z2
            have z3 := Ext.below hB _ _ z3
            have z4 := Ext.below hB _ _ z4
            have q2 := Ext.below hB _ _ HQ.out
            clear hB
            by_cases hlt : k ≤ D
            · have hst : respGo c P ts I k (D + 1 - k) = if boundOf ts I k ≤ (leastSpec c P k).1 then ((k : Int), 0) else respGo c P ts I (k + 1) (D - k) := by
                rw [show D + 1 - k = (D - k) + 1 by omega]; rfl
              rw [hst] at HG
              have HG := Lib.hid HG.out
              clear hst
              go_wp2_with fail
              refine (least_any c _ P k _ ⟨_, _, _, rfl, HX.out.is.ext (Ext.below HB.out)⟩).mono ?_
              rintro e w2 ⟨rfl, hb2⟩
              have HB2 := Lib.hid (bthen HB.out hb2)
              clear hb2 z0 z1 z2 z3 z4 q2 HB
              obtain ⟨lv, hlv⟩ : ∃ lv, lv = (leastSpec c P k).1 := ⟨_, rfl⟩
              rw [← hlv] at HG ⊢
              clear hlv
              go_wp2_with fail
              refine (bound_any _ ts I k _ (HT.out.ext (Ext.below HB2.out)) HOK.out h6 hI (by omega) (by omega)).mono ?_
              rintro e w3 ⟨rfl, hb3⟩
              have HB3 := Lib.hid (bthen HB2.out hb3)
              clear hb3 HB2
              obtain ⟨bv, hbv⟩ : ∃ bv, bv = boundOf ts I k := ⟨_, rfl⟩
              rw [← hbv] at HG ⊢
              clear hbv
              by_cases hge : bv ≤ lv
              · have HG := Lib.hid (HG.out.trans (if_pos hge))
                have e3 : decide (lv ≥ bv) = true := decide_eq_true hge
                go_wp2_with fail
                go_ret2
                exact ⟨ret_pair HG.out, bthen HB1.out HB3.out⟩
              · have HG := Lib.hid (HG.out.trans (if_neg hge))
                have e3 : decide (lv ≥ bv) = false := decide_eq_false hge
                go_wp2_with fail
                go_roundw
                case rel => exact ⟨k + 1, by omega, by omega, by go_num, Lib.hid (by rw [HG.out, show D + 1 - (k + 1) = D - k by omega]), HB3.out⟩
                case measure => simp [intOf]; omega
            · obtain rfl : k = D + 1 := by omega
              have HG := Lib.hid (show respSpec c P I = (0, 901) by rw [HG.out, show D + 1 - (D + 1) = 0 by omega]; rfl)
              go_wp2_with fail
              go_ret2
              exact ⟨ret_pair HG.out, bthen HB1.out HB.out⟩
      · have HS : Hid (respSpec c P i = (0, 900)) := Lib.hid (respSpec_bad (Or.inr (Or.inl (by rw [levelOf_at c P hP]; exact hl))))
        have e2 : (c.parts[P].level != 1) = true := by simpa using hl
        clear hk hl t5 hts hok
        go_wp2_with fail
        go_ret2
        exact ⟨ret_pair HS.out, HB1.out⟩
  · have HS : Hid (respSpec c p i = (0, 900)) := Lib.hid (respSpec_bad (Or.inl hk))
    have e1 : (checkCfg c != 0) = true := by simpa using hk
    clear hk
    go_wp2_with fail
    go_ret2
    exact ⟨ret_pair HS.out, HB1.out⟩
set_option maxRecDepth 100000 in
set_option maxHeartbeats 2000000 in
theorem refResp_any (c : Config) (v : Value) (P I : Nat) (w : World) (hc : CfgV w v c) (hk : checkCfg c = 0) (hP : P < c.parts.length) (hI : I < c.parts[P].tasks.length) :
    Calls Try.prog 27 #[v, .int .i64 P, .int .i64 I] w fun e w' => e = .returned (.tuple #[.int .i64 (respIn c P I).1, .int .i64 (respIn c P I).2]) ∧ Below w.heap.size w w' := by
  obtain ⟨pv, wv, ov, rfl, hcfg⟩ := hc
  have HC := Lib.hid hcfg
  have hX := cfg_box w c _ _ _ 26 hcfg
  obtain ⟨pa, pcap, rfl, hp1, hp2, hp3, hp4⟩ := hcfg.parts
  obtain ⟨b, off, rfl, hcell⟩ := hp4 (by intro h; rw [h] at hP; simp at hP)
  obtain ⟨y0, tv, cv, y1, y2, hpi⟩ := hcell P hP
  obtain ⟨ts, hts⟩ : ∃ ts, ts = c.parts[P].tasks := ⟨_, rfl⟩
  have hT := hpi.tasks
  rw [← hts] at hT hI
  have HT := Lib.hid hT
  obtain ⟨ta, tc, rfl, t2, t3, t4, t5⟩ := hT
  obtain ⟨hok, h6⟩ := tasks_ok (check_tasks hk _ (List.getElem_mem hP))
  rw [← hts] at hok h6
  unfold IntAt at y0
  obtain ⟨tb, toff, rfl, tcell⟩ := t5 (by intro h; rw [h] at hI; simp at hI)
  have hm := may_cases ts[I] (tasksOk_all ts hok _ (List.getElem_mem hI))
  obtain ⟨D, hD⟩ := Int.eq_ofNat_of_zero_le (show 0 ≤ ts[I].deadline by omega)
  have hD1 : 1 ≤ D := by omega
  have hD2 : D ≤ 1024 := by omega
  have q2 := (tcell I hI).2.2.1
  unfold IntAt at q2
  rw [hD] at q2
  have HR := Lib.hid (respIn_at c P I ts D hP hts.symm hI hD)
  have HOK := Lib.hid hok
  have HK := Lib.hid hk
  have HB1 := Lib.hid (balloc w (.cells #[.int .i64 c.frame, .int .i64 c.quiet, .slice (some ⟨b, off, none⟩) c.parts.length pcap, wv, ov] 26))
  have hbw : b < w.heap.size := cell_lt y1
  have htw : tb < w.heap.size := cell_lt q2
  obtain ⟨w1, hw1⟩ : ∃ w1, w1 = w.alloc (.cells #[.int .i64 c.frame, .int .i64 c.quiet, .slice (some ⟨b, off, none⟩) c.parts.length pcap, wv, ov] 26) := ⟨_, rfl⟩
  have HQ := Lib.hid (Ext.below HB1.out _ _ q2)
  have HY := Lib.hid (Ext.below HB1.out _ _ y1)
  rw [← hw1] at HB1 hX HQ HY
  obtain ⟨g, hg⟩ : ∃ g, g = w.heap.size := ⟨_, rfl⟩
  rw [← hg] at hX
  have HX := Lib.hid hX
  clear hk hts hok tcell hm hD hp4 hcfg hcell hpi hX y0 y1 y2 q2 t5
  go_enter Try.func27, Try.ntmps27
  have y1 := HY.out
  have z0 := HX.out.c0; have z1 := HX.out.c1; have z2 := HX.out.c2; have z3 := HX.out.c3; have z4 := HX.out.c4; unfold IntAt at z0 z1
  go_wp2_with (first | (rw [← hw1, ← hg]; clear hw1 hg) | fail)
  clear y1
  go_loopw [9] (fun j wr => ∃ k : Nat, 1 ≤ k ∧ k ≤ D + 1 ∧ j = .int .i64 k ∧ Hid (respIn c P I = respGo c P ts I k (D + 1 - k)) ∧ Below w1.heap.size w1 wr) (fun j _ => D + 1 - (intOf j).toNat)
  case atStart => exact ⟨1, by omega, by omega, rfl, HR, Below.refl _ _⟩
  case round =>
    obtain ⟨k, hk1, hk2, rfl, HG, hB⟩ := hrel
    have HB := Lib.hid hB
    have z0 := Ext.below hB _ _ z0
    have z1 := Ext.below hB _ _ z1
    have z2 := Ext.below hB _ _ z2
    have z3 := Ext.below hB _ _ z3
    have z4 := Ext.below hB _ _ z4
    have q2 := Ext.below hB _ _ HQ.out
    clear hB
    by_cases hlt : k ≤ D
    · have hst : respGo c P ts I k (D + 1 - k) = if boundOf ts I k ≤ (leastSpec c P k).1 then ((k : Int), 0) else respGo c P ts I (k + 1) (D - k) := by
        rw [show D + 1 - k = (D - k) + 1 by omega]; rfl
      rw [hst] at HG
      have HG := Lib.hid HG.out
      have hls : leastSpec c P k = ((k : Int) / c.frame * cnt c P c.frame.toNat + leastTo c P ((k : Int) % c.frame).toNat (cnt c P ((k : Int) % c.frame).toNat) c.frame.toNat, 0) := by
        unfold leastSpec
        rw [if_neg (by have := HK.out; omega)]
      have HL := Lib.hid hls
      clear hst hls
      go_wp2_with fail
      refine (refLeast_any c _ P k _ ⟨_, _, _, rfl, HX.out.is.ext (Ext.below HB.out)⟩ HK.out (by omega) (by omega) (by omega)).mono ?_
      rintro e w2 ⟨rfl, hb2⟩
      have HB2 := Lib.hid (bthen HB.out hb2)
      clear hb2 z0 z1 z2 z3 z4 q2 HB
      rw [HL.out] at HG
      clear HL
      generalize (k : Int) / c.frame * cnt c P c.frame.toNat + leastTo c P ((k : Int) % c.frame).toNat (cnt c P ((k : Int) % c.frame).toNat) c.frame.toNat = lv at HG ⊢
      go_wp2_with fail
      refine (refBound_any _ ts I k _ (HT.out.ext ((Ext.below HB1.out).trans (Ext.below HB2.out))) HOK.out h6 hI (by omega) (by omega)).mono ?_
      rintro e w3 ⟨rfl, hb3⟩
      have HB3 := Lib.hid (bthen HB2.out hb3)
      clear hb3 HB2
      obtain ⟨bv, hbv⟩ : ∃ bv, bv = boundOf ts I k := ⟨_, rfl⟩
      rw [← hbv] at HG ⊢
      clear hbv
      by_cases hge : bv ≤ lv
      · have HG := Lib.hid (HG.out.trans (if_pos hge))
        have e3 : decide (lv ≥ bv) = true := decide_eq_true hge
        go_wp2_with fail
        go_ret2
        exact ⟨ret_pair HG.out, bthen HB1.out HB3.out⟩
      · have HG := Lib.hid (HG.out.trans (if_neg hge))
        have e3 : decide (lv ≥ bv) = false := decide_eq_false hge
        go_wp2_with fail
        go_roundw
        case rel => exact ⟨k + 1, by omega, by omega, by go_num, Lib.hid (by rw [HG.out, show D + 1 - (k + 1) = D - k by omega]), HB3.out⟩
        case measure => simp [intOf]; omega
    · obtain rfl : k = D + 1 := by omega
      have HG := Lib.hid (show respIn c P I = (0, 901) by rw [HG.out, show D + 1 - (D + 1) = 0 by omega]; rfl)
      go_wp2_with fail
      go_ret2
      exact ⟨ret_pair HG.out, bthen HB1.out HB.out⟩
end Go.Proofs.Ythnecccakeminaa
