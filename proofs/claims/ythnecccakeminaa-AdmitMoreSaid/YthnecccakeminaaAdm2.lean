/- What is asked for at most: the program's answer and the reference's. -/
import Derived.Test.YthnecccakeminaaAdm1
import Derived.Test.YthnecccakeminaaTail
set_option linter.unusedVariables false
set_option linter.unusedSimpArgs false
namespace Go.Proofs.Ythnecccakeminaa
open Go.RowKit

def ask1 (p len : Int) (t : Task) : Int := if t.prio < p then t.chigh * ((len + t.period - 1) / t.period) else 0
def ask (p len : Int) : List Task → Int
  | [] => 0
  | t :: r => ask1 p len t + ask p len r
def task0 : Task := ⟨0, 0, 0, 0, 0, 0⟩
def boundOf (ts : List Task) (i : Nat) (len : Int) : Int := (ts.getD i task0).chigh + ask (ts.getD i task0).prio len ts
theorem ask_step (p len : Int) (ts : List Task) (k : Nat) (h : k < ts.length) : ask p len (ts.drop k) = ask1 p len ts[k] + ask p len (ts.drop (k + 1)) := by
  rw [List.drop_eq_getElem_cons h]; rfl
theorem may_cases (t : Task) (h : taskMay t = true) : 1 ≤ t.period ∧ t.period ≤ 1024 ∧ 1 ≤ t.chigh ∧ t.chigh ≤ t.deadline ∧ t.deadline ≤ t.period ∧ 1 ≤ t.deadline ∧ 0 ≤ t.prio ∧ t.prio ≤ 255 := by
  unfold taskMay at h
  have := of_decide_eq_true h
  omega
theorem ask_quo (t : Task) (len : Int) (h : taskMay t = true) (h0 : 0 ≤ len) (h1 : len ≤ 4096) : 0 ≤ (len + t.period - 1) / t.period ∧ (len + t.period - 1) / t.period ≤ 5119 ∧ 0 ≤ t.chigh * ((len + t.period - 1) / t.period) ∧ t.chigh * ((len + t.period - 1) / t.period) ≤ 5241856 := by
  have hm := may_cases t h
  have a1 : 0 ≤ (len + t.period - 1) / t.period := Int.ediv_nonneg (by omega) (by omega)
  have a2 : (len + t.period - 1) / t.period ≤ len + t.period - 1 := Int.ediv_le_self _ (by omega)
  have a3 : 0 ≤ t.chigh * ((len + t.period - 1) / t.period) := Int.mul_nonneg (by omega) a1
  have a4 : t.chigh * ((len + t.period - 1) / t.period) ≤ 1024 * 5119 := Int.mul_le_mul (by omega) (by omega) a1 (by omega)
  exact ⟨a1, by omega, a3, by omega⟩
theorem ask1_bd (p len : Int) (t : Task) (h : taskMay t = true) (h0 : 0 ≤ len) (h1 : len ≤ 4096) : 0 ≤ ask1 p len t ∧ ask1 p len t ≤ 5241856 := by
  have := ask_quo t len h h0 h1
  unfold ask1
  split <;> omega
theorem ask_bd (p len : Int) (ts : List Task) (h : ∀ t ∈ ts, taskMay t = true) (h0 : 0 ≤ len) (h1 : len ≤ 4096) : 0 ≤ ask p len ts ∧ ask p len ts ≤ ts.length * 5241856 := by
  induction ts with
  | nil => simp [ask]
  | cons t r ih =>
    have a := ih fun x hx => h x (List.mem_cons_of_mem _ hx)
    have b := ask1_bd p len t (h t (List.mem_cons_self ..)) h0 h1
    unfold ask
    simp only [List.length_cons]
    omega
theorem tasksOk_all (ts : List Task) (h : tasksOk ts = true) : ∀ t ∈ ts, taskMay t = true := by
  intro t ht
  obtain ⟨k, hk, rfl⟩ := List.getElem_of_mem ht
  exact (tasksOk_at ts h k hk).1

set_option maxRecDepth 100000 in
set_option maxHeartbeats 1000000 in
theorem bound_any (v : Value) (ts : List Task) (i : Nat) (len : Int) (w : World) (hv : TasksV w v ts) (hok : tasksOk ts = true) (h6 : ts.length ≤ 6) (hi : i < ts.length) (h0 : 0 ≤ len) (h1 : len ≤ 4096) :
    Calls Try.prog 24 #[v, .int .i64 i, .int .i64 len] w fun e w' => e = .returned (.tuple #[.int .i64 (boundOf ts i len), .int .i64 0]) ∧ Below w.heap.size w w' := by
  have HVV := Lib.hid hv
  obtain ⟨a, c, rfl, hv1, hv2, hv3, hv4⟩ := hv
  obtain ⟨b, off, rfl, hcell⟩ := hv4 (by intro h; rw [h] at hi; simp at hi)
  have HC := Lib.hid hcell
  have HA := Lib.hid (tasksOk_all ts hok)
  have HOK := Lib.hid hok
  have hgi : ts.getD i task0 = ts[i] := by simp [List.getD, List.getElem?_eq_getElem hi]
  clear hv4 hok hcell
  have HG := Lib.hid (show boundOf ts i len = ts[i].chigh + ask ts[i].prio len ts by unfold boundOf; rw [hgi])
  clear hgi
  go_enter Try.func24, Try.ntmps24
  go_wp2_with fail
  refine (may_any _ _ _ HVV.out HOK.out h6).mono ?_
  rintro e w1 ⟨rfl, hb1⟩
  have HB1 := Lib.hid hb1
  have q4 := ((HC.out i hi).ext (Ext.below hb1)).2.2.2.2.1
  unfold IntAt at q4
  clear hb1
  go_wp2_with fail
  clear q4
  obtain ⟨wo, rfl⟩ : ∃ wo : World, wo = w1 := ⟨_, rfl⟩
  go_loopw [8, 39] (fun m j wr => ∃ (k : Nat) (x : Int), k ≤ ts.length ∧ j = .int .i64 k ∧ m = .int .i64 x ∧ 0 ≤ x ∧ x ≤ 1024 + k * 5241856 ∧ Hid (boundOf ts i len = x + ask ts[i].prio len (ts.drop k)) ∧ Below w.heap.size w wr) (fun _ j _ => ts.length - (intOf j).toNat)
  case atStart =>
    have hc := may_cases ts[i] (HA.out _ (List.getElem_mem hi))
    exact ⟨0, ts[i].chigh, by omega, rfl, rfl, by omega, by omega, Lib.hid (by rw [HG.out, List.drop_zero]), HB1.out⟩
  case round =>
    obtain ⟨k, x, hk, rfl, rfl, hx0, hx1, HD, hB⟩ := hrel
    have HB := Lib.hid hB
    clear hB
    by_cases hlt : k < ts.length
    · obtain ⟨y0, y1, y2, y3, y4, y5⟩ := TaskAt.ext (Ext.below HB.out) (HC.out k hlt)
      have q5 := ((HC.out i hi).ext (Ext.below HB.out)).2.2.2.2.2
      unfold IntAt at y0 y1 y2 y3 y4 y5 q5
      have hgr : b < wr.heap.size := cell_lt q5
      have hst := ask_step ts[i].prio len ts k hlt
      have hmk := HA.out _ (List.getElem_mem hlt)
      obtain ⟨a1, a2, a3, a4⟩ := ask_quo ts[k] len hmk h0 h1
      obtain ⟨m1, m2, m3, m4, m5, -⟩ := may_cases ts[k] hmk
      have s1 : IntKind.i64.wrap (len + ts[k].period) = len + ts[k].period := IntWalk.i64_in _ (by omega)
      have s2 : IntKind.i64.wrap (len + ts[k].period - 1) = len + ts[k].period - 1 := IntWalk.i64_in _ (by omega)
      have s3 : IntKind.i64.wrap ((len + ts[k].period - 1) / ts[k].period) = (len + ts[k].period - 1) / ts[k].period := IntWalk.i64_in _ (by omega)
      have s4 : (len + ts[k].period - 1).tdiv ts[k].period = (len + ts[k].period - 1) / ts[k].period := Int.tdiv_eq_ediv_of_nonneg (by omega)
      have s5 : IntKind.i64.wrap (ts[k].chigh * ((len + ts[k].period - 1) / ts[k].period)) = ts[k].chigh * ((len + ts[k].period - 1) / ts[k].period) := IntWalk.i64_in _ (by omega)
      have s6 : IntKind.i64.wrap (x + ts[k].chigh * ((len + ts[k].period - 1) / ts[k].period)) = x + ts[k].chigh * ((len + ts[k].period - 1) / ts[k].period) := IntWalk.i64_in _ (by omega)
      have s7 : (ts[k].period == 0) = false := by simp; omega
      have s8 : (ts[k].period == -1) = false := by simp; omega
      have s9 : ¬ ts[k].period = 0 := by omega
      have s10 : ¬ ts[k].period = -1 := by omega
      have HQ := Lib.hid (And.intro a3 a4)
      clear a1 a2 a3 a4 m1 m2 m3 m4 m5 hmk
      by_cases hlp : ts[k].prio < ts[i].prio
      · have ha1 : ask1 ts[i].prio len ts[k] = ts[k].chigh * ((len + ts[k].period - 1) / ts[k].period) := by unfold ask1; rw [if_pos hlp]
        rw [ha1] at hst
        have HS := Lib.hid hst
        have e1 : decide (ts[k].prio < ts[i].prio) = true := decide_eq_true hlp
        clear hst ha1 hlp
        go_wp2_with fail
        go_quiet (fail)
        go_wp2_with fail
        go_quiet (fail)
        go_wp2_with fail
        go_roundw
        case rel => exact ⟨k + 1, _, by omega, by go_num, rfl, by have := HQ.out; omega, by have := HQ.out; push_cast; omega, Lib.hid (by rw [HD.out, HS.out, Int.add_assoc]), below_drewN (bthen HB.out (balloc _ _)) _⟩
        case measure => simp [intOf]; omega
      · have ha1 : ask1 ts[i].prio len ts[k] = 0 := by unfold ask1; rw [if_neg hlp]
        rw [ha1, Int.zero_add] at hst
        have HS := Lib.hid hst
        have e1 : decide (ts[k].prio < ts[i].prio) = false := decide_eq_false hlp
        clear hst ha1 hlp
        go_wp2_with fail
        go_quiet (fail)
        go_wp2_with fail
        go_roundw
        case rel => exact ⟨k + 1, x, by omega, by go_num, rfl, by omega, by push_cast; omega, Lib.hid (by rw [HD.out, HS.out]), below_drewN (bthen HB.out (balloc _ _)) _⟩
        case measure => simp [intOf]; omega
    · have hfin : boundOf ts i len = x := by rw [HD.out, List.drop_of_length_le (by omega)]; simp [ask]
      have HF := Lib.hid hfin
      clear hfin
      go_wp2_with fail
      go_ret2
      exact ⟨by rw [HF.out]; rfl, HB.out⟩

set_option maxRecDepth 100000 in
set_option maxHeartbeats 1000000 in
theorem refBound_any (v : Value) (ts : List Task) (i : Nat) (len : Int) (w : World) (hv : TasksV w v ts) (hok : tasksOk ts = true) (h6 : ts.length ≤ 6) (hi : i < ts.length) (h0 : 0 ≤ len) (h1 : len ≤ 4096) :
    Calls Try.prog 33 #[v, .int .i64 i, .int .i64 len] w fun e w' => e = .returned (.int .i64 (boundOf ts i len)) ∧ Below w.heap.size w w' := by
  have HVV := Lib.hid hv
  obtain ⟨a, c, rfl, hv1, hv2, hv3, hv4⟩ := hv
  obtain ⟨b, off, rfl, hcell⟩ := hv4 (by intro h; rw [h] at hi; simp at hi)
  have HC := Lib.hid hcell
  have HA := Lib.hid (tasksOk_all ts hok)
  have HOK := Lib.hid hok
  have hgi : ts.getD i task0 = ts[i] := by simp [List.getD, List.getElem?_eq_getElem hi]
  have q4 := (hcell i hi).2.2.2.2.1
  unfold IntAt at q4
  clear hv4 hok hcell
  have HG := Lib.hid (show boundOf ts i len = ts[i].chigh + ask ts[i].prio len ts by unfold boundOf; rw [hgi])
  clear hgi
  go_enter Try.func33, Try.ntmps33
  go_wp2_with fail
  clear q4
  go_loopw [7, 8] (fun m j wr => ∃ (k : Nat) (x : Int), k ≤ ts.length ∧ j = .int .i64 k ∧ m = .int .i64 x ∧ 0 ≤ x ∧ x ≤ 1024 + k * 5241856 ∧ Hid (boundOf ts i len = x + ask ts[i].prio len (ts.drop k)) ∧ Below w.heap.size w wr) (fun _ j _ => ts.length - (intOf j).toNat)
  case atStart =>
    have hc := may_cases ts[i] (HA.out _ (List.getElem_mem hi))
    exact ⟨0, ts[i].chigh, by omega, rfl, rfl, by omega, by omega, Lib.hid (by rw [HG.out, List.drop_zero]), Below.refl _ _⟩
  case round =>
    obtain ⟨k, x, hk, rfl, rfl, hx0, hx1, HD, hB⟩ := hrel
    have HB := Lib.hid hB
    clear hB
    by_cases hlt : k < ts.length
    · obtain ⟨y0, y1, y2, y3, y4, y5⟩ := TaskAt.ext (Ext.below HB.out) (HC.out k hlt)
      have q5 := ((HC.out i hi).ext (Ext.below HB.out)).2.2.2.2.2
      unfold IntAt at y0 y1 y2 y3 y4 y5 q5
      have hst := ask_step ts[i].prio len ts k hlt
      have hmk := HA.out _ (List.getElem_mem hlt)
      obtain ⟨a1, a2, a3, a4⟩ := ask_quo ts[k] len hmk h0 h1
      obtain ⟨m1, m2, m3, m4, m5, -⟩ := may_cases ts[k] hmk
      have hcm : (len + ts[k].period - 1) / ts[k].period * ts[k].chigh = ts[k].chigh * ((len + ts[k].period - 1) / ts[k].period) := Int.mul_comm _ _
      have s1 : IntKind.i64.wrap (len + ts[k].period) = len + ts[k].period := IntWalk.i64_in _ (by omega)
      have s2 : IntKind.i64.wrap (len + ts[k].period - 1) = len + ts[k].period - 1 := IntWalk.i64_in _ (by omega)
      have s3 : IntKind.i64.wrap ((len + ts[k].period - 1) / ts[k].period) = (len + ts[k].period - 1) / ts[k].period := IntWalk.i64_in _ (by omega)
      have s4 : (len + ts[k].period - 1).tdiv ts[k].period = (len + ts[k].period - 1) / ts[k].period := Int.tdiv_eq_ediv_of_nonneg (by omega)
      have s5 : IntKind.i64.wrap ((len + ts[k].period - 1) / ts[k].period * ts[k].chigh) = (len + ts[k].period - 1) / ts[k].period * ts[k].chigh := IntWalk.i64_in _ (by omega)
      have s6 : IntKind.i64.wrap (x + (len + ts[k].period - 1) / ts[k].period * ts[k].chigh) = x + (len + ts[k].period - 1) / ts[k].period * ts[k].chigh := IntWalk.i64_in _ (by omega)
      have s7 : (ts[k].period == 0) = false := by simp; omega
      have s8 : (ts[k].period == -1) = false := by simp; omega
      have s9 : ¬ ts[k].period = 0 := by omega
      have s10 : ¬ ts[k].period = -1 := by omega
      have HQ := Lib.hid (And.intro hcm (And.intro a3 a4))
      clear a1 a2 a3 a4 m1 m2 m3 m4 m5 hmk hcm
      by_cases hlp : ts[k].prio < ts[i].prio
      · have ha1 : ask1 ts[i].prio len ts[k] = ts[k].chigh * ((len + ts[k].period - 1) / ts[k].period) := by unfold ask1; rw [if_pos hlp]
        rw [ha1] at hst
        have HS := Lib.hid hst
        have e1 : decide (ts[k].prio < ts[i].prio) = true := decide_eq_true hlp
        clear hst ha1 hlp
        go_wp2_with fail
        go_quiet (fail)
        go_wp2_with fail
        go_quiet (fail)
        go_wp2_with fail
        go_roundw
        case rel => exact ⟨k + 1, _, by omega, by go_num, rfl, by have := HQ.out; omega, by have := HQ.out; push_cast; omega, Lib.hid (by rw [HD.out, HS.out, HQ.out.1, Int.add_assoc]), below_drewN HB.out _⟩
        case measure => simp [intOf]; omega
      · have ha1 : ask1 ts[i].prio len ts[k] = 0 := by unfold ask1; rw [if_neg hlp]
        rw [ha1, Int.zero_add] at hst
        have HS := Lib.hid hst
        have e1 : decide (ts[k].prio < ts[i].prio) = false := decide_eq_false hlp
        clear hst ha1 hlp
        go_wp2_with fail
        go_quiet (fail)
        go_wp2_with fail
        go_roundw
        case rel => exact ⟨k + 1, x, by omega, by go_num, rfl, by omega, by push_cast; omega, Lib.hid (by rw [HD.out, HS.out]), below_drewN HB.out _⟩
        case measure => simp [intOf]; omega
    · have hfin : boundOf ts i len = x := by rw [HD.out, List.drop_of_length_le (by omega)]; simp [ask]
      have HF := Lib.hid hfin
      clear hfin
      go_wp2_with fail
      go_ret
      exact ⟨by rw [HF.out]; rfl, HB.out⟩
set_option maxRecDepth 100000 in
set_option maxHeartbeats 1000000 in
theorem refBoundS_any (v : Value) (ts : List Task) (i : Nat) (len : Int) (w : World) (hv : TasksV w v ts) (hok : tasksOk ts = true) (h6 : ts.length ≤ 6) (hi : i < ts.length) (h0 : 0 ≤ len) (h1 : len ≤ 4096) :
    Calls Try.prog 18 #[v, .int .i64 i, .int .i64 len] w fun e w' => e = .returned (.tuple #[.int .i64 (boundOf ts i len), .int .i64 0]) ∧ Below w.heap.size w w' := by
  have HVV := Lib.hid hv
  have HOK := Lib.hid hok
  obtain ⟨a, c, rfl, hv1, hv2, hv3, hv4⟩ := hv
  clear hv4 hok
  go_enter Try.func18, Try.ntmps18
  go_wp2_with fail
  refine (refTasksMay_any _ _ _ HVV.out).mono ?_
  rintro e w1 ⟨rfl, hb1⟩
  have HB1 := Lib.hid hb1
  have HV1 := Lib.hid (HVV.out.ext (Ext.below hb1))
  clear hb1
  rw [HOK.out]
  go_wp2_with fail
  refine (refBound_any _ ts i len _ HV1.out HOK.out h6 hi h0 h1).mono ?_
  rintro e w2 ⟨rfl, hb2⟩
  go_wp2_with fail
  go_ret2
  exact ⟨rfl, bthen HB1.out hb2⟩
end Go.Proofs.Ythnecccakeminaa
