/- What frame.Hyper answers. -/
import Derived.Test.YtgpefejghhgnmaaTick
set_option linter.unusedVariables false
set_option linter.unusedSimpArgs false
namespace Go.Proofs.Ytgpefejghhgnmaa
open Go.RowKit

set_option maxRecDepth 100000 in
set_option maxHeartbeats 400000 in
theorem lcm_any (a b : Nat) (ha : a < 18446744073709551616) (hb : b < 18446744073709551616) (h0 : 0 < a) (h1 : 0 < b) (w : World) :
    Calls Try.prog 26 #[.int .u64 a, .int .u64 b] w fun e w' => e = .returned (.tuple #[.int .u64 (lcmSpec a b).1, .int .i64 (lcmSpec a b).2]) ∧ Below w.heap.size w w' := by
  have HL : Hid (lcmSpec a b = mulSpec (a / Nat.gcd a b) b) := Lib.hid (by unfold lcmSpec; rw [if_neg (by omega)])
  have hg : 0 < Nat.gcd a b := Nat.gcd_pos_of_pos_left _ h0
  have hq : a / Nat.gcd a b ≤ a := Nat.div_le_self _ _
  have e1 : ((a : Int) == 0) = false := by simp; omega
  have e2 : ((b : Int) == 0) = false := by simp; omega
  obtain ⟨g, hgg⟩ : ∃ g, Nat.gcd a b = g := ⟨_, rfl⟩
  have HG := Lib.hid (gcd_any a b ha hb w)
  rw [hgg] at HG HL hg hq
  obtain ⟨q, hqq⟩ : ∃ q, a / g = q := ⟨_, rfl⟩
  rw [hqq] at HL hq
  have d1 : (a : Int).tdiv (g : Int) = (q : Int) := by rw [Int.tdiv_eq_ediv_of_nonneg (by omega), ← hqq]; rfl
  have d2 : (a : Int) / (g : Int) = (q : Int) := by rw [← hqq]; rfl
  have d3 : IntKind.u64.wrap (q : Int) = (q : Int) := wrapN _ (by omega)
  have d4 : ((g : Int) == 0) = false := by simp; omega
  clear hgg hqq
  go_enter Try.func26, Try.ntmps26
  go_wp2_with fail
  refine HG.out.mono ?_
  rintro e w1 ⟨rfl, hb1⟩
  go_wp2_with fail
  refine (mul_any q b (by omega) hb _).mono ?_
  rw [← HL.out]
  rintro e w2 ⟨rfl, rfl⟩
  go_wp2_with fail
  go_ret2
  exact ⟨rfl, hb1⟩

def lcmO (x y : Nat) : Option Nat := if x / Nat.gcd x y * y < two64 then some (x / Nat.gcd x y * y) else none
theorem lcmSpec_O (x y : Nat) (hx : 0 < x) (hy : 0 < y) : lcmSpec x y = match lcmO x y with | some z => ((z : Int), 0) | none => (0, 100) := by
  unfold lcmSpec mulSpec lcmO
  rw [if_neg (by omega)]
  split <;> rfl
theorem lcmO_pos {x y z : Nat} (hx : 0 < x) (hy : 0 < y) (h : lcmO x y = some z) : 0 < z ∧ z < 18446744073709551616 := by
  unfold lcmO two64 at h
  split at h
  · injection h with h
    subst h
    refine ⟨Nat.mul_pos ?_ hy, by assumption⟩
    exact Nat.div_pos (Nat.gcd_le_left _ hx) (Nat.gcd_pos_of_pos_left _ hx)
  · exact absurd h (by simp)
def hyT (x : Nat) : List Task → Option Nat
  | [] => some x
  | t :: r => (lcmO x t.period.toNat).bind fun y => hyT y r
def hyP (x : Nat) : List Part → Option Nat
  | [] => some x
  | p :: r => (hyT x p.tasks).bind fun y => hyP y r
def hyperSpec (c : Config) : Int × Int := if checkCfg c ≠ 0 then (0, 600) else match hyP c.frame.toNat c.parts with | some x => ((x : Int), 0) | none => (0, 100)
theorem hyT_step (x : Nat) (ts : List Task) (k : Nat) (h : k < ts.length) : hyT x (ts.drop k) = (lcmO x ts[k].period.toNat).bind fun y => hyT y (ts.drop (k + 1)) := by
  rw [List.drop_eq_getElem_cons h]
  rfl
theorem hyP_step (x : Nat) (ps : List Part) (k : Nat) (h : k < ps.length) : hyP x (ps.drop k) = (hyT x ps[k].tasks).bind fun y => hyP y (ps.drop (k + 1)) := by
  rw [List.drop_eq_getElem_cons h]
  rfl
theorem tasksFrom_all (l : Int) (ts : List Task) : ∀ (r : List Task) (k : Nat), tasksFrom l ts k r = true → ∀ t ∈ r, taskMay t = true := by
  intro r
  induction r with
  | nil => intro k _ t ht; simp at ht
  | cons a r ih =>
    intro k h t ht
    unfold tasksFrom at h
    simp only [Bool.and_eq_true] at h
    rcases List.mem_cons.1 ht with rfl | ht
    · exact h.1.1.1
    · exact ih _ h.2 t ht
theorem check_tasks {c : Config} (h : checkCfg c = 0) : ∀ p ∈ c.parts, p.tasks.length ≤ 6 ∧ ∀ t ∈ p.tasks, taskMay t = true := by
  unfold checkCfg at h
  split at h
  · omega
  split at h
  · omega
  split at h
  · omega
  rename_i h1 h2 h3
  intro p hp
  have h4 : tasksMay p = true := by
    cases hq : tasksMay p with
    | true => rfl
    | false => exact absurd (List.any_eq_true.2 ⟨p, hp, by rw [hq]; rfl⟩) h3
  unfold tasksMay at h4
  simp only [Bool.and_eq_true, decide_eq_true_eq] at h4
  exact ⟨h4.1, tasksFrom_all _ _ _ _ h4.2⟩

set_option maxRecDepth 100000 in
set_option maxHeartbeats 1600000 in
theorem hyper_any (c : Config) (v : Value) (w : World) (hc : CfgV w v c) :
    Calls Try.prog 13 #[v] w fun e w' => e = .returned (.tuple #[.int .u64 (hyperSpec c).1, .int .i64 (hyperSpec c).2]) ∧ Below w.heap.size w w' := by
  obtain ⟨pv, wv, ov, rfl, hcfg⟩ := hc
  have HC := Lib.hid hcfg
  obtain ⟨pa, pcap, rfl, hp1, hp2, hp3, hp4⟩ := hcfg.parts
  have HW := Lib.hid hp4
  clear hp4 hcfg
  go_enter Try.func13, Try.ntmps13
  go_wp2_with fail
  refine (check_any c _ _ ⟨_, _, _, rfl, HC.out.ext (Ext.alloc _ _)⟩).mono ?_
  rintro e w1 ⟨rfl, hb1⟩
  have HB1 := Lib.hid (bthen (balloc _ _) hb1)
  have HX := Lib.hid ((cfg_box w c _ _ _ 26 HC.out).ext (Ext.below hb1))
  have z0 := HX.out.c0; have z1 := HX.out.c1; have z2 := HX.out.c2; have z3 := HX.out.c3; have z4 := HX.out.c4; unfold IntAt at z0 z1
  clear hb1
  by_cases hk : checkCfg c = 0
  · have e1 : (checkCfg c != 0) = false := by rw [hk]; rfl
    have ho := check_ok hk
    have HTK := Lib.hid (check_tasks hk)
    obtain ⟨o1, o2, -⟩ := ho
    obtain ⟨F, hF⟩ := Int.eq_ofNat_of_zero_le (show 0 ≤ c.frame by omega)
    have HS : Hid (hyperSpec c = match hyP F c.parts with | some x => ((x : Int), 0) | none => (0, 100)) := Lib.hid (by unfold hyperSpec; rw [if_neg (by omega), hF]; rfl)
    have hl1 : c.parts.length ≤ 8 := by have := check_ok hk; omega
    rw [hF] at z0 o1 o2
    clear hk
    have f1 : 0 < F := by omega
    have f2 : F ≤ 256 := by omega
    have hcv : IntKind.u64.wrap (F : Int) = (F : Int) := wrapN _ (by omega)
    clear hF
    go_wp2_with fail
    clear z0 z1 z2 z3 z4 hcv
    obtain ⟨wo, rfl⟩ : ∃ wo : World, wo = w1 := ⟨_, rfl⟩
    go_loopw [4, 6, 8, 9, 10, 20] (fun o _ _ _ _ i wr => ∃ (k x : Nat), k ≤ c.parts.length ∧ i = .int .i64 k ∧ o = .int .u64 x ∧ 0 < x ∧ x < 18446744073709551616 ∧ Hid (hyP F c.parts = hyP x (c.parts.drop k)) ∧ Below w.heap.size w wr) (fun _ _ _ _ _ i _ => c.parts.length - (intOf i).toNat)
    case atStart => exact ⟨0, F, by omega, rfl, rfl, f1, by omega, Lib.hid (by simp), HB1.out⟩
    case round =>
      obtain ⟨k, x, hk, rfl, rfl, hx1, hx2, HD, hB⟩ := hrel
      have HB := Lib.hid hB
      clear hB
      by_cases hlt : k < c.parts.length
      · obtain ⟨b, off, rfl, hcell⟩ := HW.out (by intro h; rw [h] at hlt; simp at hlt)
        obtain ⟨y0, tv, cv, y1, y2, hpi⟩ := PartAt.ext (Ext.below HB.out) (hcell k hlt)
        unfold IntAt at y0
        clear hcell
        have hpt := HTK.out c.parts[k] (List.getElem_mem hlt)
        obtain ⟨ta, tcap, rfl, ht1, ht2, ht3, ht4⟩ := hpi.tasks
        obtain ⟨ca, ccap, rfl, -⟩ := hpi.code
        have HV := Lib.hid ht4
        have htl := hpt.1
        have HPT := Lib.hid hpt.2
        have hstep := hyP_step x c.parts k hlt
        rw [← HD.out] at hstep
        have HSt := Lib.hid hstep
        clear hstep HD hpi ht4 hpt
        have hbw : b < wr.heap.size := cell_lt y0
        go_wp2_with fail
        have HB2 := Lib.hid (bthen HB.out (balloc wr (.cells #[.int .i64 c.parts[k].level, .slice ta c.parts[k].tasks.length tcap, .slice ca c.parts[k].code.length ccap] 47)))
        have HE2 := Lib.hid (Ext.alloc wr (.cells #[.int .i64 c.parts[k].level, .slice ta c.parts[k].tasks.length tcap, .slice ca c.parts[k].code.length ccap] 47))
        obtain ⟨wp, hwp⟩ : ∃ wp, wp = wr.alloc (.cells #[.int .i64 c.parts[k].level, .slice ta c.parts[k].tasks.length tcap, .slice ca c.parts[k].code.length ccap] 47) := ⟨_, rfl⟩
        rw [← hwp] at HB2 HE2 ⊢
        clear hwp y0 y1 y2 HB
        go_loopw [4, 8, 9, 10, 27] (fun o _ _ _ j wq => ∃ (m y : Nat), m ≤ c.parts[k].tasks.length ∧ j = .int .i64 m ∧ o = .int .u64 y ∧ 0 < y ∧ y < 18446744073709551616 ∧ Hid (hyT x c.parts[k].tasks = hyT y (c.parts[k].tasks.drop m)) ∧ Below wp.heap.size wp wq) (fun _ _ _ _ j _ => c.parts[k].tasks.length - (intOf j).toNat)
        case atStart => exact ⟨0, x, by omega, rfl, rfl, hx1, hx2, Lib.hid (by simp), Below.refl _ _⟩
        case round =>
          obtain ⟨m, y, hm, rfl, rfl, hy1, hy2, HG, hB3⟩ := hrel
          have HB3 := Lib.hid hB3
          clear hB3
          by_cases hml : m < c.parts[k].tasks.length
          · obtain ⟨tb, toff, rfl, htc⟩ := HV.out (by intro h; rw [h] at hml; simp at hml)
            obtain ⟨q0, q1, q2, q3, q4, q5⟩ := TaskAt.ext (HE2.out.trans (Ext.below HB3.out)) (htc m hml)
            unfold IntAt at q0 q1 q2 q3 q4 q5
            clear htc
            have htm := HPT.out c.parts[k].tasks[m] (List.getElem_mem hml)
            unfold taskMay at htm
            rw [decide_eq_true_eq] at htm
            obtain ⟨D, hD⟩ := Int.eq_ofNat_of_zero_le (show 0 ≤ c.parts[k].tasks[m].period by omega)
            have d1 : 0 < D := by omega
            have d2 : D ≤ 1024 := by omega
            rw [hD] at q1
            have hst := hyT_step y c.parts[k].tasks m hml
            rw [← HG.out, hD, Int.toNat_natCast] at hst
            have HST := Lib.hid hst
            have HD2 := Lib.hid hD
            clear hst HG htm hD
            have hcv : IntKind.u64.wrap (D : Int) = (D : Int) := wrapN _ (by omega)
            go_wp2_with fail
            refine (lcm_any y D hy2 (by omega) hy1 d1 _).mono ?_
            rw [lcmSpec_O y D hy1 d1]
            cases hl : lcmO y D with
            | none =>
              rintro e w3 ⟨rfl, hb3⟩
              have HL := Lib.hid hl
              clear hl
              go_wp2_with fail
              go_ret2
              exact ⟨ret_pair (by rw [HS.out, HSt.out, HST.out, HL.out]; rfl), bthen HB2.out (bthen HB3.out (bthen (balloc _ _) hb3))⟩
            | some z =>
              rintro e w3 ⟨rfl, hb3⟩
              have hzz := lcmO_pos hy1 d1 hl
              have HL := Lib.hid hl
              clear hl
              go_wp2_with fail
              go_roundw
              case rel => exact ⟨m + 1, z, by omega, by go_num, rfl, hzz.1, hzz.2, Lib.hid (by rw [HST.out, HL.out]; rfl), bthen HB3.out (bthen (balloc _ _) hb3)⟩
              case measure => simp [intOf]; omega
          · have hfin : hyT x c.parts[k].tasks = some y := by
              rw [HG.out, List.drop_of_length_le (by omega)]; rfl
            have HF2 := Lib.hid hfin
            clear hfin HG
            go_wp2_with fail
            go_roundw
            case rel => exact ⟨k + 1, y, by omega, by go_num, rfl, hy1, hy2, Lib.hid (by rw [HSt.out, HF2.out]; rfl), bthen HB2.out HB3.out⟩
            case measure => simp [intOf]; omega
      · have hfin : hyP F c.parts = some x := by
          rw [HD.out, List.drop_of_length_le (by omega)]; rfl
        have HF2 := Lib.hid hfin
        clear hfin HD
        go_wp2_with fail
        go_ret2
        exact ⟨ret_pair (by rw [HS.out, HF2.out]), HB.out⟩
  · have HS : Hid (hyperSpec c = (0, 600)) := Lib.hid (by unfold hyperSpec; rw [if_pos hk])
    have e1 : (checkCfg c != 0) = true := by simpa using hk
    clear hk
    go_wp2_with fail
    go_ret2
    exact ⟨ret_pair HS.out, HB1.out⟩
end Go.Proofs.Ytgpefejghhgnmaa
