/- Who may run: the program's answer and the reference's. -/
import Derived.Test.YthnecccakeminaaAdm3
set_option linter.unusedVariables false
set_option linter.unusedSimpArgs false
namespace Go.Proofs.Ythnecccakeminaa
open Go.RowKit

/-- Is one of these tasks (numbered from i on) late? -/
def lateTasks (c : Config) (p : Int) : Nat → List Task → Bool
  | _, [] => false
  | i, _ :: r => decide ((respIn c p i).2 ≠ 0) || lateTasks c p (i + 1) r
def lateFrom (c : Config) : Nat → List Part → Bool
  | _, [] => false
  | p, x :: r => (decide (x.level = 1) && lateTasks c p 0 x.tasks) || lateFrom c (p + 1) r
def noneFrom (c : Config) : Nat → List Part → Bool
  | _, [] => false
  | p, x :: r => (decide (x.level = 0) && decide (shareOf p c.windows = 0)) || noneFrom c (p + 1) r
def admitSpec (c : Config) : Int := if checkCfg c ≠ 0 then checkCfg c else if lateFrom c 0 c.parts = true then 901 else if noneFrom c 0 c.parts = true then 902 else 0
theorem lateTasks_step (c : Config) (p : Int) (ts : List Task) (k : Nat) (h : k < ts.length) : lateTasks c p k (ts.drop k) = (decide ((respIn c p k).2 ≠ 0) || lateTasks c p (k + 1) (ts.drop (k + 1))) := by
  rw [List.drop_eq_getElem_cons h]; rfl
theorem lateFrom_step (c : Config) (ps : List Part) (k : Nat) (h : k < ps.length) : lateFrom c k (ps.drop k) = ((decide (ps[k].level = 1) && lateTasks c k 0 ps[k].tasks) || lateFrom c (k + 1) (ps.drop (k + 1))) := by
  rw [List.drop_eq_getElem_cons h]; rfl
theorem noneFrom_step (c : Config) (ps : List Part) (k : Nat) (h : k < ps.length) : noneFrom c k (ps.drop k) = ((decide (ps[k].level = 0) && decide (shareOf k c.windows = 0)) || noneFrom c (k + 1) (ps.drop (k + 1))) := by
  rw [List.drop_eq_getElem_cons h]; rfl
theorem respGo_err (c : Config) (p : Int) (ts : List Task) (i l m : Nat) : (respGo c p ts i l m).2 = 0 ∨ (respGo c p ts i l m).2 = 901 := by
  induction m generalizing l with
  | zero => exact Or.inr rfl
  | succ m ih =>
    unfold respGo
    split
    · exact Or.inl rfl
    · exact ih _
theorem respIn_err (c : Config) (p : Int) (i : Nat) : (respIn c p i).2 = 0 ∨ (respIn c p i).2 = 901 := respGo_err ..

set_option maxRecDepth 100000 in
set_option maxHeartbeats 1000000 in
theorem refResponse_any (c : Config) (v : Value) (p i : Int) (w : World) (hc : CfgV w v c) :
    Calls Try.prog 11 #[v, .int .i64 p, .int .i64 i] w fun e w' => e = .returned (.tuple #[.int .i64 (respSpec c p i).1, .int .i64 (respSpec c p i).2]) ∧ Below w.heap.size w w' := by
  obtain ⟨pv, wv, ov, rfl, hcfg⟩ := hc
  have HC := Lib.hid hcfg
  obtain ⟨pa, pcap, rfl, hp1, hp2, hp3, hp4⟩ := hcfg.parts
  have HP := Lib.hid hp4
  clear hp4 hcfg
  go_enter Try.func11, Try.ntmps11
  go_wp2_with fail
  refine (refCheck_any c _ _ ⟨_, _, _, rfl, HC.out.ext (Ext.alloc _ _)⟩).mono ?_
  rintro e w1 ⟨rfl, hb1⟩
  have HB1 := Lib.hid (bthen (balloc _ _) hb1)
  have HX := Lib.hid ((cfg_box w c _ _ _ 26 HC.out).ext (Ext.below hb1))
  have z0 := HX.out.c0; have z1 := HX.out.c1; have z2 := HX.out.c2; have z3 := HX.out.c3; have z4 := HX.out.c4; unfold IntAt at z0 z1
  clear hb1
  by_cases hk : checkCfg c = 0
  · have e1 : (checkCfg c != 0) = false := by rw [hk]; rfl
    have HK := Lib.hid hk
    clear hk
    go_wp2_with fail
    refine (refLevel_any c _ p _ ⟨_, _, _, rfl, HX.out.is⟩).mono ?_
    rintro e w2 ⟨rfl, hb2⟩
    have HB2 := Lib.hid (bthen HB1.out hb2)
    have HX2 := Lib.hid (HX.out.ext (Ext.below hb2))
    clear hb2 z0 z1 z2 z3 z4 HX
    have y0 := HX2.out.c0; have y1 := HX2.out.c1; have y2 := HX2.out.c2; have y3 := HX2.out.c3; have y4 := HX2.out.c4; unfold IntAt at y0 y1
    by_cases hl : levelOf c.parts p = 1
    · have e2 : (levelOf c.parts p != 1) = false := by rw [hl]; rfl
      have hpp : 0 ≤ p ∧ p < c.parts.length := by
        unfold levelOf at hl
        split at hl
        · omega
        · omega
      obtain ⟨P, rfl⟩ := Int.eq_ofNat_of_zero_le hpp.1
      have hP : P < c.parts.length := by omega
      obtain ⟨b, off, rfl, hcell⟩ := HP.out (by intro h; rw [h] at hP; simp at hP)
      obtain ⟨-, tv, cv, r1, r2, hpi⟩ := PartAt.ext (Ext.below HB2.out) (hcell P hP)
      obtain ⟨ta, tc, rfl, t2, t3, t4, -⟩ := hpi.tasks
      have hl' := hl
      rw [levelOf_at c P hP] at hl'
      by_cases hi : i < 0 ∨ i ≥ c.parts[P].tasks.length
      · have HS : Hid (respSpec c P i = (0, 900)) := Lib.hid (respSpec_bad (Or.inr (Or.inr (by rw [tasksOf_at c P hP]; exact hi))))
        have HI := Lib.hid hi
        clear hl hl' hi hcell hpi hpp
        go_wp2_with fail
        all_goals first
          | (go_ret2; exact ⟨ret_pair HS.out, HB2.out⟩)
          | (exfalso; have := HI.out; omega)
      · obtain ⟨I, rfl⟩ := Int.eq_ofNat_of_zero_le (show 0 ≤ i by omega)
        have hI : I < c.parts[P].tasks.length := by omega
        have HS := Lib.hid (respSpec_in HK.out hP hl' hI)
        have d4 : decide (c.parts[P].tasks.length ≤ I) = false := decide_eq_false (by omega)
        clear hl hl' hi hcell hpi hpp
        go_wp2_with fail
        refine (refResp_any c _ P I _ ⟨_, _, _, rfl, HX2.out.is⟩ HK.out hP hI).mono ?_
        rintro e w3 ⟨rfl, hb3⟩
        have HB3 := Lib.hid (bthen HB2.out hb3)
        clear hb3 y0 y1 y2 y3 y4
        go_wp2_with fail
        go_ret2
        exact ⟨by rw [HS.out]; rfl, HB3.out⟩
    · have HS : Hid (respSpec c p i = (0, 900)) := Lib.hid (respSpec_bad (Or.inr (Or.inl hl)))
      have e2 : (levelOf c.parts p != 1) = true := by simpa using hl
      clear hl
      go_wp2_with fail
      go_ret2
      exact ⟨ret_pair HS.out, HB2.out⟩
  · have HS : Hid (respSpec c p i = (0, 900)) := Lib.hid (respSpec_bad (Or.inl hk))
    have e1 : (checkCfg c != 0) = true := by simpa using hk
    clear hk
    go_wp2_with fail
    go_ret2
    exact ⟨ret_pair HS.out, HB1.out⟩
set_option maxRecDepth 100000 in
set_option maxHeartbeats 2000000 in
theorem admit_any (c : Config) (v : Value) (w : World) (hc : CfgV w v c) :
    Calls Try.prog 12 #[v] w fun e w' => e = .returned (.int .i64 (admitSpec c)) ∧ Below w.heap.size w w' := by
  obtain ⟨pv, wv, ov, rfl, hcfg⟩ := hc
  have HC := Lib.hid hcfg
  obtain ⟨pa, pcap, rfl, hp1, hp2, hp3, hp4⟩ := hcfg.parts
  have HP := Lib.hid hp4
  clear hp4 hcfg
  go_enter Try.func12, Try.ntmps12
  go_wp2_with fail
  refine (check_any c _ _ ⟨_, _, ov, rfl, HC.out.ext (Ext.alloc _ _)⟩).mono ?_
  rintro e w1 ⟨rfl, hb1⟩
  have HB1 := Lib.hid (bthen (balloc _ _) hb1)
  have HX := Lib.hid ((cfg_box w c _ _ _ 26 HC.out).ext (Ext.below hb1))
  have z0 := HX.out.c0; have z1 := HX.out.c1; have z2 := HX.out.c2; have z3 := HX.out.c3; have z4 := HX.out.c4; unfold IntAt at z0 z1
  clear hb1
  by_cases hk : checkCfg c = 0
  · have e1 : (checkCfg c != 0) = false := by rw [hk]; rfl
    have HK := Lib.hid hk
    have HA := Lib.hid (show admitSpec c = if lateFrom c 0 c.parts = true then 901 else if noneFrom c 0 c.parts = true then 902 else 0 by unfold admitSpec; rw [if_neg (by omega)])
    have h8 : c.parts.length ≤ 8 := (check_ok hk).2.2.2.2.2.1
    clear hk
    go_wp2_with fail
    clear z0 z1 z2 z3 z4
    go_loopw [21] (fun j wr => ∃ k : Nat, k ≤ c.parts.length ∧ j = .int .i64 k ∧ Hid (lateFrom c 0 c.parts = lateFrom c k (c.parts.drop k)) ∧ Below w1.heap.size w1 wr) (fun j _ => c.parts.length - (intOf j).toNat)
    case atStart => exact ⟨0, by omega, rfl, Lib.hid (by simp), Below.refl _ _⟩
    case round =>
      obtain ⟨k, hk, rfl, HG, hB⟩ := hrel
      have HB := Lib.hid hB
      clear hB
      by_cases hlt : k < c.parts.length
      · obtain ⟨b, off, rfl, hcell⟩ := HP.out (by intro h; rw [h] at hlt; simp at hlt)
        obtain ⟨y0, tv, cv, y1, y2, hpi⟩ := PartAt.ext ((Ext.below HB1.out).trans (Ext.below HB.out)) (hcell k hlt)
        obtain ⟨ta, tc, rfl, t2, t3, t4, -⟩ := hpi.tasks
        obtain ⟨ca, cc, rfl, c2, c3, c4, -⟩ := hpi.code
        obtain ⟨nc, hnc⟩ : ∃ nc, nc = c.parts[k].code.length := ⟨_, rfl⟩
        rw [← hnc] at y2 c2 c3
        clear hnc
        unfold IntAt at y0
        have hst := lateFrom_step c c.parts k hlt
        rw [← HG.out] at hst
        have HS := Lib.hid hst
        have h6 := (tasks_ok (check_tasks HK.out _ (List.getElem_mem hlt))).2
        have hgr : b < wr.heap.size := cell_lt y0
        have HBr := Lib.hid (balloc wr (.cells #[.int .i64 c.parts[k].level, .slice ta c.parts[k].tasks.length tc, .slice ca nc cc] 42))
        obtain ⟨w2, hw2⟩ : ∃ w2, w2 = wr.alloc (.cells #[.int .i64 c.parts[k].level, .slice ta c.parts[k].tasks.length tc, .slice ca nc cc] 42) := ⟨_, rfl⟩
        have x0 : w2.cell? ⟨wr.heap.size, 0, none⟩ = some (.int .i64 c.parts[k].level) := by rw [hw2]; exact box_at 0 rfl
        have x1 : w2.cell? ⟨wr.heap.size, 1, none⟩ = some (.slice ta c.parts[k].tasks.length tc) := by rw [hw2]; exact box_at 1 rfl
        rw [← hw2] at HBr
        have HB2 := Lib.hid (bthen HB.out HBr.out)
        obtain ⟨g, hg⟩ : ∃ g, g = wr.heap.size := ⟨_, rfl⟩
        rw [← hg] at x0 x1
        clear hst hcell hpi HBr
        go_wp2_with (first | (rw [← hw2, ← hg]; clear hw2 hg y0 y1 y2 hgr) | fail)
        have HX2 := Lib.hid (And.intro x0 x1)
        go_loopw [29] (fun j wr => ∃ m : Nat, m ≤ c.parts[k].tasks.length ∧ j = .int .i64 m ∧ Hid (lateFrom c 0 c.parts = ((decide (c.parts[k].level = 1) && lateTasks c k m (c.parts[k].tasks.drop m)) || lateFrom c (k + 1) (c.parts.drop (k + 1)))) ∧ Below w2.heap.size w2 wr) (fun j _ => c.parts[k].tasks.length - (intOf j).toNat)
        case atStart => exact ⟨0, by omega, rfl, Lib.hid (by rw [HS.out, List.drop_zero]), Below.refl _ _⟩
        case round =>
          obtain ⟨m, hm, rfl, HM, hBm⟩ := hrel
          have HBm := Lib.hid hBm
          have x0 := Ext.below hBm _ _ x0
          have x1 := Ext.below hBm _ _ x1
          have HBn := Lib.hid (bthen HB2.out hBm)
          have HXn := Lib.hid (HX.out.ext (Ext.below (bthen HB2.out hBm)))
          clear hBm
          by_cases hml : m < c.parts[k].tasks.length
          · have hst := lateTasks_step c k c.parts[k].tasks m hml
            have HT := Lib.hid hst
            clear hst
            have z0 := HXn.out.c0; have z1 := HXn.out.c1; have z2 := HXn.out.c2; have z3 := HXn.out.c3; have z4 := HXn.out.c4; unfold IntAt at z0 z1
            go_wp2_with fail
            refine (response_any c _ k m _ ⟨_, _, _, rfl, HXn.out.is⟩).mono ?_
            rintro e w3 ⟨rfl, hb3⟩
            have HB3 := Lib.hid (bthen HBm.out hb3)
            have x0 := Ext.below hb3 _ _ x0
            clear hb3 z0 z1 z2 z3 z4 x1 HXn
            by_cases hl : c.parts[k].level = 1
            · have hr : respSpec c k m = respIn c k m := respSpec_in HK.out hlt hl hml
              rw [hl] at x0
              by_cases hz : (respIn c k m).2 = 0
              · have HG2 := Lib.hid (show lateFrom c 0 c.parts = ((decide (c.parts[k].level = 1) && lateTasks c k (m + 1) (c.parts[k].tasks.drop (m + 1))) || lateFrom c (k + 1) (c.parts.drop (k + 1))) by rw [HM.out, HT.out, hz]; simp)
                have e4 : ((respSpec c k m).2 != 0) = false := by rw [hr, hz]; rfl
                clear hl hr hz
                go_wp2_with fail
                go_roundw
                case rel => exact ⟨m + 1, by omega, by go_num, HG2, HB3.out⟩
                case measure => simp [intOf]; omega
              · have HG2 := Lib.hid (show lateFrom c 0 c.parts = true by rw [HM.out, HT.out, hl, decide_eq_true hz]; simp)
                have e4 : ((respSpec c k m).2 != 0) = true := by rw [hr]; simpa using hz
                clear hl hr hz
                go_wp2_with fail
                go_ret
                exact ⟨ret_int (by rw [HA.out, HG2.out]; rfl), bthen HB1.out (bthen HB2.out HB3.out)⟩
            · have HG2 := Lib.hid (show lateFrom c 0 c.parts = ((decide (c.parts[k].level = 1) && lateTasks c k (m + 1) (c.parts[k].tasks.drop (m + 1))) || lateFrom c (k + 1) (c.parts.drop (k + 1))) by rw [HM.out, decide_eq_false hl]; simp)
              have e4 : (c.parts[k].level == 1) = false := by simpa using hl
              clear hl
              go_wp2_with fail
              go_roundw
              case rel => exact ⟨m + 1, by omega, by go_num, HG2, HB3.out⟩
              case measure => simp [intOf]; omega
          · have hfin : lateFrom c 0 c.parts = lateFrom c (k + 1) (c.parts.drop (k + 1)) := by
              rw [HM.out, List.drop_of_length_le (by omega)]; simp [lateTasks]
            have HF := Lib.hid hfin
            clear hfin
            go_wp2_with fail
            go_roundw
            case rel => exact ⟨k + 1, by omega, by go_num, HF, HBn.out⟩
            case measure => simp [intOf]; omega
      · have hfin : lateFrom c 0 c.parts = false := by
          rw [HG.out, List.drop_of_length_le (by omega)]; rfl
        have HA := Lib.hid (show admitSpec c = if noneFrom c 0 c.parts = true then 902 else 0 by rw [HA.out, hfin]; rfl)
        clear hfin HG
        have z2 := (HX.out.ext (Ext.below HB.out)).c2
        go_wp2_with fail
        clear z2
        obtain ⟨wp, rfl⟩ : ∃ wp : World, wp = wr := ⟨_, rfl⟩
        go_loopw [51] (fun j wr => ∃ k : Nat, k ≤ c.parts.length ∧ j = .int .i64 k ∧ Hid (noneFrom c 0 c.parts = noneFrom c k (c.parts.drop k)) ∧ Below w1.heap.size w1 wr) (fun j _ => c.parts.length - (intOf j).toNat)
        case atStart => exact ⟨0, by omega, rfl, Lib.hid (by simp), HB.out⟩
        case round =>
          obtain ⟨k, hk, rfl, HG, hB⟩ := hrel
          have HB := Lib.hid hB
          clear hB
          by_cases hlt : k < c.parts.length
          · obtain ⟨b, off, rfl, hcell⟩ := HP.out (by intro h; rw [h] at hlt; simp at hlt)
            obtain ⟨y0, tv, cv, y1, y2, hpi⟩ := PartAt.ext ((Ext.below HB1.out).trans (Ext.below HB.out)) (hcell k hlt)
            obtain ⟨ta, tc, rfl, t2, t3, t4, -⟩ := hpi.tasks
            obtain ⟨ca, cc, rfl, c2, c3, c4, -⟩ := hpi.code
            unfold IntAt at y0
            obtain ⟨nc, hnc⟩ : ∃ nc, nc = c.parts[k].code.length := ⟨_, rfl⟩
            obtain ⟨nt, hnt⟩ : ∃ nt, nt = c.parts[k].tasks.length := ⟨_, rfl⟩
            rw [← hnc] at y2 c2 c3
            rw [← hnt] at y1 t2 t3
            clear hnc hnt hpi
            have hst := noneFrom_step c c.parts k hlt
            rw [← HG.out] at hst
            have HS := Lib.hid hst
            have hgr : b < wr.heap.size := cell_lt y0
            have HBr := Lib.hid (balloc wr (.cells #[.int .i64 c.parts[k].level, .slice ta nt tc, .slice ca nc cc] 42))
            obtain ⟨w2, hw2⟩ : ∃ w2, w2 = wr.alloc (.cells #[.int .i64 c.parts[k].level, .slice ta nt tc, .slice ca nc cc] 42) := ⟨_, rfl⟩
            have x0 : w2.cell? ⟨wr.heap.size, 0, none⟩ = some (.int .i64 c.parts[k].level) := by rw [hw2]; exact box_at 0 rfl
            rw [← hw2] at HBr
            have HB2 := Lib.hid (bthen HB.out HBr.out)
            have HX2 := Lib.hid (HX.out.ext (Ext.below HB2.out))
            have z0 := HX2.out.c0; have z1 := HX2.out.c1; have z2 := HX2.out.c2; have z3 := HX2.out.c3; have z4 := HX2.out.c4; unfold IntAt at z0 z1
            obtain ⟨g, hg⟩ : ∃ g, g = wr.heap.size := ⟨_, rfl⟩
            rw [← hg] at x0
            clear hst hcell HBr
            go_wp2_with (first | (rw [← hw2, ← hg]; clear hw2 hg y0 y1 y2 hgr) | fail)
            refine (share_any c _ k _ ⟨_, _, _, rfl, HX2.out.is⟩).mono ?_
            rintro e w3 ⟨rfl, hb3⟩
            have HB3 := Lib.hid (bthen HB2.out hb3)
            have x0 := Ext.below hb3 _ _ x0
            have hsp : shareSpec c k = (shareOf k c.windows, 0) := by
              unfold shareSpec
              rw [if_neg (by have := HK.out; omega)]
            rw [hsp]
            clear hb3 z0 z1 z2 z3 z4 HX2 hsp
            by_cases hl : c.parts[k].level = 0
            · rw [hl] at x0
              by_cases hz : shareOf k c.windows = 0
              · have HG2 := Lib.hid (show noneFrom c 0 c.parts = true by rw [HS.out, hl, decide_eq_true hz]; simp)
                have e4 : (shareOf k c.windows == 0) = true := by rw [hz]; rfl
                clear hl hz
                go_wp2_with fail
                go_ret
                exact ⟨ret_int (by rw [HA.out, HG2.out]; rfl), bthen HB1.out HB3.out⟩
              · have HG2 := Lib.hid (show noneFrom c 0 c.parts = noneFrom c (k + 1) (c.parts.drop (k + 1)) by rw [HS.out, decide_eq_false hz]; simp)
                have e4 : (shareOf k c.windows == 0) = false := by simpa using hz
                clear hl hz
                go_wp2_with fail
                go_roundw
                case rel => exact ⟨k + 1, by omega, by go_num, HG2, HB3.out⟩
                case measure => simp [intOf]; omega
            · have HG2 := Lib.hid (show noneFrom c 0 c.parts = noneFrom c (k + 1) (c.parts.drop (k + 1)) by rw [HS.out, decide_eq_false hl]; simp)
              have e4 : (c.parts[k].level == 0) = false := by simpa using hl
              clear hl
              go_wp2_with fail
              go_roundw
              case rel => exact ⟨k + 1, by omega, by go_num, HG2, HB3.out⟩
              case measure => simp [intOf]; omega
          · have hfin : noneFrom c 0 c.parts = false := by
              rw [HG.out, List.drop_of_length_le (by omega)]; rfl
            have HF := Lib.hid hfin
            clear hfin
            go_wp2_with fail
            go_ret
            exact ⟨ret_int (by rw [HA.out, HF.out]; rfl), bthen HB1.out HB.out⟩
  · have HA := Lib.hid (show admitSpec c = checkCfg c by unfold admitSpec; rw [if_pos hk])
    have e1 : (checkCfg c != 0) = true := by simpa using hk
    clear hk
    go_wp2_with fail
    go_ret
    exact ⟨ret_int HA.out.symm, HB1.out⟩
end Go.Proofs.Ythnecccakeminaa
