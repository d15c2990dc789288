/- package meter. -/
import Derived.Test.YtooeeiiiflfckaaGreatPutA
import Derived.Test.YtooeeiiiflfckaaGreatChkA
import Derived.Test.YtooeeiiiflfckaaGreatLibA
set_option linter.unusedVariables false
set_option linter.unusedSimpArgs false
namespace Go.Proofs.YtooeeiiiflfckaaGreat
open Go.RowKit
structure Verdict where
 over : Bool
 done : Bool
 kill : Bool
def limI (t : Task) (lvl : Int) : Int := if lvl = 1 then t.chigh else t.clow
def chJ (j : Job) : Job := { j with used := j.used + 1 }
def chV (j : Job) (t : Task) (lvl : Int) : Verdict := ⟨decide (lvl = 1) && (j.used + 1 == t.clow) && !(j.used + 1 == j.demand), j.used + 1 == j.demand, !(j.used + 1 == j.demand) && (j.used + 1 == limI t lvl)⟩
abbrev vdV (v : Verdict) : Value := .agg #[.bool v.over, .bool v.done, .bool v.kill]
theorem jobsMay_one {j : Job} (h : jobMay j = true) : jobsMay [j] = true := by
 rw [jobsMay_iff]
 refine ⟨fun i hi => ?_, by simp⟩
 obtain rfl : i = 0 := by simp at hi; omega
 unfold okAt
 simp [h]
set_option maxRecDepth 100000 in
set_option maxHeartbeats 1000000 in
theorem limit_any (b : Nat) (t : Task) (lvl : Int) (w : World) (h3 : w.cell? ⟨b, 3, none⟩ = some (.int .i64 t.clow)) (h4 : w.cell? ⟨b, 4, none⟩ = some (.int .i64 t.chigh)) :
  Calls Tryz.prog 152 #[.pointer (some ⟨b, 0, none⟩), .int .i64 lvl] w fun e w' => e = .returned (.int .i64 (limI t lvl)) /\ w' = w := by
 by_cases h : lvl = 1
 ·subst h
  go_enter Tryz.func152, Tryz.ntmps152
  go_wp2_with fail
  go_ret
  exact ⟨rfl, rfl⟩
 ·have HE := Lib.hid (show limI t lvl = t.clow by unfold limI; rw [if_neg h])
  have h' : (lvl == 1) = false := by simpa using h
  clear h
  go_enter Tryz.func152, Tryz.ntmps152
  go_wp2_with fail
  go_ret
  exact ⟨by rw [HE.out]; rfl, rfl⟩
def ChT (w : World) (ga gb gc gd : Nat) (j : Job) (t : Task) (vd : Array Value) (b1 b2 : Bool) (W : World) : Prop :=
 Below w.heap.size w W /\ W.heap[ga]? = some (.cells #[.int .i64 j.task, .int .i64 j.seq, .int .i64 j.prio, .int .i64 j.release, .int .i64 j.deadline, .int .i64 j.demand, .int .i64 (j.used + 1)] 124 (0, 0)) /\ W.heap[gb]? = some (.cells #[.int .i64 t.kind, .int .i64 t.period, .int .i64 t.deadline, .int .i64 t.clow, .int .i64 t.chigh, .int .i64 t.prio] 51 (0, 0)) /\
 W.heap[gc]? = some (.cells (if b1 = true then #[.int .i64 j.task, .int .i64 j.seq, .int .i64 j.prio, .int .i64 j.release, .int .i64 j.deadline, .int .i64 j.demand, .int .i64 (j.used + 1)] else #[.int .i64 0, .int .i64 0, .int .i64 0, .int .i64 0, .int .i64 0, .int .i64 0, .int .i64 0]) 124 (0, 0)) /\ W.heap[gd]? = some (.cells (if b2 = true then vd else #[.bool false, .bool false, .bool false]) 230 (0, 0))
def Ch000V (ga gb : Nat) (j : Job) (t : Task) (a : Nat) (v : Value) : Prop := match a with
 | 0 => v = .agg #[.int .i64 j.task, .int .i64 j.seq, .int .i64 j.prio, .int .i64 j.release, .int .i64 j.deadline, .int .i64 j.demand, .int .i64 (j.used + 1)]
 | 1 => v = .int .i64 0
 | 2 => v = .bool false
 | 3 => v = .bool false
 | 4 => v = undef
 | 5 => v = undef
 | 6 => v = undef
 | 7 => v = undef
 | 8 => v = undef
 | 9 => v = .bool false
 | 10 => v = .bool false
 | 11 => v = undef
 | 12 => v = undef
 | 13 => v = .bool false
 | 14 => v = .bool false
 | 15 => v = .bool false
 | 16 => v = .bool true
 | 17 => v = .bool true
 | 18 => v = .pointer (some ⟨ga, 6, none⟩)
 | 19 => v = .int .i64 (j.used + 1)
 | 20 => v = .int .i64 0
 | 21 => v = .int .i64 (limI t 0)
 | 22 => v = .bool (j.used + 1 == limI t 0)
 | 23 => v = .bool (j.used + 1 == limI t 0)
 | 24 => v = .agg #[.bool false, .bool false, .bool (j.used + 1 == limI t 0)]
 | 27 => v = .int .i64 0
 | _ => True
def Ch001V (ga gb : Nat) (j : Job) (t : Task) (a : Nat) (v : Value) : Prop := match a with
 | 0 => v = .agg #[.int .i64 j.task, .int .i64 j.seq, .int .i64 j.prio, .int .i64 j.release, .int .i64 j.deadline, .int .i64 j.demand, .int .i64 (j.used + 1)]
 | 1 => v = .int .i64 0
 | 2 => v = .bool false
 | 3 => v = .bool false
 | 4 => v = undef
 | 5 => v = undef
 | 6 => v = undef
 | 7 => v = undef
 | 8 => v = undef
 | 9 => v = .bool false
 | 10 => v = .bool false
 | 11 => v = undef
 | 12 => v = undef
 | 13 => v = .bool false
 | 14 => v = .bool true
 | 15 => v = .bool true
 | 16 => v = .bool false
 | 17 => v = .bool false
 | 18 => v = undef
 | 19 => v = undef
 | 20 => v = undef
 | 21 => v = undef
 | 22 => v = undef
 | 23 => v = .bool false
 | 24 => v = .agg #[.bool false, .bool true, .bool false]
 | 27 => v = .int .i64 0
 | _ => True
def Ch100V (ga gb : Nat) (j : Job) (t : Task) (a : Nat) (v : Value) : Prop := match a with
 | 0 => v = .agg #[.int .i64 j.task, .int .i64 j.seq, .int .i64 j.prio, .int .i64 j.release, .int .i64 j.deadline, .int .i64 j.demand, .int .i64 (j.used + 1)]
 | 1 => v = .int .i64 1
 | 2 => v = .bool true
 | 3 => v = .bool true
 | 4 => v = .pointer (some ⟨ga, 6, none⟩)
 | 5 => v = .int .i64 (j.used + 1)
 | 6 => v = .pointer (some ⟨gb, 3, none⟩)
 | 7 => v = .int .i64 t.clow
 | 8 => v = .bool false
 | 9 => v = .bool false
 | 10 => v = .bool false
 | 11 => v = undef
 | 12 => v = undef
 | 13 => v = .bool false
 | 14 => v = .bool false
 | 15 => v = .bool false
 | 16 => v = .bool true
 | 17 => v = .bool true
 | 18 => v = .pointer (some ⟨ga, 6, none⟩)
 | 19 => v = .int .i64 (j.used + 1)
 | 20 => v = .int .i64 1
 | 21 => v = .int .i64 (limI t 1)
 | 22 => v = .bool (j.used + 1 == limI t 1)
 | 23 => v = .bool (j.used + 1 == limI t 1)
 | 24 => v = .agg #[.bool false, .bool false, .bool (j.used + 1 == limI t 1)]
 | 27 => v = .int .i64 0
 | _ => True
def Ch110V (ga gb : Nat) (j : Job) (t : Task) (a : Nat) (v : Value) : Prop := match a with
 | 0 => v = .agg #[.int .i64 j.task, .int .i64 j.seq, .int .i64 j.prio, .int .i64 j.release, .int .i64 j.deadline, .int .i64 j.demand, .int .i64 (j.used + 1)]
 | 1 => v = .int .i64 1
 | 2 => v = .bool true
 | 3 => v = .bool true
 | 4 => v = .pointer (some ⟨ga, 6, none⟩)
 | 5 => v = .int .i64 (j.used + 1)
 | 6 => v = .pointer (some ⟨gb, 3, none⟩)
 | 7 => v = .int .i64 t.clow
 | 8 => v = .bool true
 | 9 => v = .bool true
 | 10 => v = .bool true
 | 11 => v = .bool false
 | 12 => v = .bool true
 | 13 => v = .bool true
 | 14 => v = .bool false
 | 15 => v = .bool false
 | 16 => v = .bool true
 | 17 => v = .bool true
 | 18 => v = .pointer (some ⟨ga, 6, none⟩)
 | 19 => v = .int .i64 (j.used + 1)
 | 20 => v = .int .i64 1
 | 21 => v = .int .i64 (limI t 1)
 | 22 => v = .bool (j.used + 1 == limI t 1)
 | 23 => v = .bool (j.used + 1 == limI t 1)
 | 24 => v = .agg #[.bool true, .bool false, .bool (j.used + 1 == limI t 1)]
 | 27 => v = .int .i64 0
 | _ => True
def Ch101V (ga gb : Nat) (j : Job) (t : Task) (a : Nat) (v : Value) : Prop := match a with
 | 0 => v = .agg #[.int .i64 j.task, .int .i64 j.seq, .int .i64 j.prio, .int .i64 j.release, .int .i64 j.deadline, .int .i64 j.demand, .int .i64 (j.used + 1)]
 | 1 => v = .int .i64 1
 | 2 => v = .bool true
 | 3 => v = .bool true
 | 4 => v = .pointer (some ⟨ga, 6, none⟩)
 | 5 => v = .int .i64 (j.used + 1)
 | 6 => v = .pointer (some ⟨gb, 3, none⟩)
 | 7 => v = .int .i64 t.clow
 | 8 => v = .bool false
 | 9 => v = .bool false
 | 10 => v = .bool false
 | 11 => v = undef
 | 12 => v = undef
 | 13 => v = .bool false
 | 14 => v = .bool true
 | 15 => v = .bool true
 | 16 => v = .bool false
 | 17 => v = .bool false
 | 18 => v = undef
 | 19 => v = undef
 | 20 => v = undef
 | 21 => v = undef
 | 22 => v = undef
 | 23 => v = .bool false
 | 24 => v = .agg #[.bool false, .bool true, .bool false]
 | 27 => v = .int .i64 0
 | _ => True
def Ch111V (ga gb : Nat) (j : Job) (t : Task) (a : Nat) (v : Value) : Prop := match a with
 | 0 => v = .agg #[.int .i64 j.task, .int .i64 j.seq, .int .i64 j.prio, .int .i64 j.release, .int .i64 j.deadline, .int .i64 j.demand, .int .i64 (j.used + 1)]
 | 1 => v = .int .i64 1
 | 2 => v = .bool true
 | 3 => v = .bool true
 | 4 => v = .pointer (some ⟨ga, 6, none⟩)
 | 5 => v = .int .i64 (j.used + 1)
 | 6 => v = .pointer (some ⟨gb, 3, none⟩)
 | 7 => v = .int .i64 t.clow
 | 8 => v = .bool true
 | 9 => v = .bool true
 | 10 => v = .bool true
 | 11 => v = .bool true
 | 12 => v = .bool false
 | 13 => v = .bool false
 | 14 => v = .bool true
 | 15 => v = .bool true
 | 16 => v = .bool false
 | 17 => v = .bool false
 | 18 => v = undef
 | 19 => v = undef
 | 20 => v = undef
 | 21 => v = undef
 | 22 => v = undef
 | 23 => v = .bool false
 | 24 => v = .agg #[.bool false, .bool true, .bool false]
 | 27 => v = .int .i64 0
 | _ => True
set_option maxRecDepth 100000 in
set_option maxHeartbeats 8000000 in
theorem charge_any (j : Job) (t : Task) (lvl : Int) (w : World) (hj : jobMay j = true) (ht : taskMay t = true) (hl : lvl = 0 ∨ lvl = 1) :
  Calls Tryz.prog 143 #[jobV j, taskV t, .int .i64 lvl] w fun e w' => e = .returned (.tuple #[jobV (chJ j), vdV (chV j t lvl), .int .i64 0]) /\ Below w.heap.size w w' := by
 have HV := Lib.hid (show ∀ bd bc, (j.used + 1 == j.demand) = bd -> (j.used + 1 == t.clow) = bc -> chV j t lvl = ⟨decide (lvl = 1) && bc && !bd, bd, !bd && (j.used + 1 == limI t lvl)⟩ from fun bd bc h1 h2 => by unfold chV; rw [h1, h2])
 rcases hl with rfl | rfl
 ·have hl0 := True.intro
  obtain ⟨wa, ga, hw_wa, hg_ga, hb_wa, hk_ga, hs_wa⟩ := alloc_all w (.cells #[.int .i64 j.task, .int .i64 j.seq, .int .i64 j.prio, .int .i64 j.release, .int .i64 j.deadline, .int .i64 j.demand, .int .i64 j.used] 124)
  obtain ⟨wb, gb, hw_wb, hg_gb, hb_wb, hk_gb, hs_wb⟩ := alloc_all wa (.cells #[.int .i64 t.kind, .int .i64 t.period, .int .i64 t.deadline, .int .i64 t.clow, .int .i64 t.chigh, .int .i64 t.prio] 51)
  obtain ⟨wc, gc, hw_wc, hg_gc, hb_wc, hk_gc, hs_wc⟩ := alloc_all wb (.cells #[.int .i64 0, .int .i64 0, .int .i64 0, .int .i64 0, .int .i64 0, .int .i64 0, .int .i64 0] 124)
  obtain ⟨wd, gd, hw_wd, hg_gd, hb_wd, hk_gd, hs_wd⟩ := alloc_all wc (.cells #[.bool false, .bool false, .bool false] 230)
  obtain ⟨we, ge, hw_we, hg_ge, hb_we, hk_ge, hs_we⟩ := alloc_all wd (.cells #[.int .i64 j.task, .int .i64 j.seq, .int .i64 j.prio, .int .i64 j.release, .int .i64 j.deadline, .int .i64 j.demand, .int .i64 j.used] 124)
  have HBE := Lib.hid (bthen hb_wa (bthen hb_wb (bthen hb_wc (bthen hb_wd hb_we))))
  have HJS := Lib.hid (show JobsV we (.slice (some ⟨ge, 0, none⟩) 1 1) [j] from slice1 (by decide) ⟨BlockIs.of hk_ge 0 _ rfl, BlockIs.of hk_ge 1 _ rfl, BlockIs.of hk_ge 2 _ rfl, BlockIs.of hk_ge 3 _ rfl, BlockIs.of hk_ge 4 _ rfl, BlockIs.of hk_ge 5 _ rfl, BlockIs.of hk_ge 6 _ rfl⟩)
  have HKA := Lib.hid (keep_at (keep_at (keep_at (keep_at hk_ga hb_wb) hb_wc) hb_wd) hb_we)
  have HKB := Lib.hid (keep_at (keep_at (keep_at hk_gb hb_wc) hb_wd) hb_we)
  have HKC := Lib.hid (keep_at (keep_at hk_gc hb_wd) hb_we)
  have HKD := Lib.hid (keep_at hk_gd hb_we)
  have HGS := Lib.hid (show w.heap.size <= ga /\ w.heap.size <= gc /\ w.heap.size <= gd /\ ga ≠ gb /\ ga ≠ gc /\ ga ≠ gd /\ gb ≠ gc /\ gb ≠ gd /\ gc ≠ gd by omega)
  have a0 := BlockIs.of HKA.out 0 _ rfl
  have a1 := BlockIs.of HKA.out 1 _ rfl
  have a2 := BlockIs.of HKA.out 2 _ rfl
  have a3 := BlockIs.of HKA.out 3 _ rfl
  have a4 := BlockIs.of HKA.out 4 _ rfl
  have a5 := BlockIs.of HKA.out 5 _ rfl
  have a6 := BlockIs.of HKA.out 6 _ rfl
  clear hb_wa hb_wb hb_wc hb_wd hb_we hk_ga hk_gb hk_gc hk_gd hk_ge
  have hm := jobsMay_one hj
  have HM := Lib.hid hm
  have HT := Lib.hid ht
  have HU := Lib.hid (show 0 <= j.used /\ j.used <= 65535 by unfold jobMay at hj; simp only [decide_eq_true_eq] at hj; omega)
  clear hm ht hj
  go_enter Tryz.func143, Tryz.ntmps143
  go_wp2_with fail
  rw [<- hw_wa, <- hw_wb, <- hw_wc, <- hw_wd, <- hw_we]
  (try rw [<- hs_wa])
  (try rw [<- hs_wb])
  (try rw [<- hs_wc])
  (try rw [<- hs_wd])
  (try rw [<- hg_ge])
  (try rw [<- hg_gd])
  (try rw [<- hg_gc])
  (try rw [<- hg_gb])
  (try rw [<- hg_ga])
  clear hw_wa hw_wb hw_wc hw_wd hw_we hg_ga hg_gb hg_gc hg_gd hg_ge hs_wa hs_wb hs_wc hs_wd hs_we
  refine (readyMay_any _ [j] _ HJS.out).mono ?_
  rw [HM.out]
  rintro e w1 ⟨rfl, hb⟩
  have HB1 := Lib.hid (bthen HBE.out hb)
  have HKA1 := Lib.hid (keep_at HKA.out hb)
  have HKB1 := Lib.hid (keep_at HKB.out hb)
  have HKC1 := Lib.hid (keep_at HKC.out hb)
  have HKD1 := Lib.hid (keep_at HKD.out hb)
  clear hb a0 a1 a2 a3 a4 a5 a6
  have b0 := BlockIs.of HKB1.out 0 _ rfl
  have b1 := BlockIs.of HKB1.out 1 _ rfl
  have b2 := BlockIs.of HKB1.out 2 _ rfl
  have b3 := BlockIs.of HKB1.out 3 _ rfl
  have b4 := BlockIs.of HKB1.out 4 _ rfl
  have b5 := BlockIs.of HKB1.out 5 _ rfl
  go_wp2_with fail
  refine (taskMay_any t _).mono ?_
  rw [HT.out]
  rintro e w2 ⟨rfl, hb⟩
  have HB2 := Lib.hid (bthen HB1.out hb)
  have HKA2 := Lib.hid (keep_at HKA1.out hb)
  have HKB2 := Lib.hid (keep_at HKB1.out hb)
  have HKC2 := Lib.hid (keep_at HKC1.out hb)
  have HKD2 := Lib.hid (keep_at HKD1.out hb)
  clear hb b0 b1 b2 b3 b4 b5
  obtain ⟨w3, hw3⟩ : ∃ w3, w3 = w2.setCell ⟨ga, 6, none⟩ (.int .i64 (j.used + 1)) := ⟨_, rfl⟩
  have hg3 : w2.grownBy w3 (some ga) := by rw [hw3]; exact set_grown _ _ _ _
  have HB3 := Lib.hid (bput HB2.out hg3 HGS.out.1 (Nat.le_refl _))
  have HKA3 := Lib.hid (show w3.heap[ga]? = some (.cells #[.int .i64 j.task, .int .i64 j.seq, .int .i64 j.prio, .int .i64 j.release, .int .i64 j.deadline, .int .i64 j.demand, .int .i64 (j.used + 1)] 124 (0, 0)) by
   rw [hw3]
   have := blk_set HKA2.out 6 (.int .i64 (j.used + 1))
   simpa using this)
  have HKB3 := Lib.hid ((hg3.block gb (lt_of_block HKB2.out) (fun q => HGS.out.2.2.2.1 (by injection q with q; omega))).trans HKB2.out)
  have HKC3 := Lib.hid ((hg3.block gc (lt_of_block HKC2.out) (fun q => HGS.out.2.2.2.2.1 (by injection q with q; omega))).trans HKC2.out)
  have HKD3 := Lib.hid ((hg3.block gd (lt_of_block HKD2.out) (fun q => HGS.out.2.2.2.2.2.1 (by injection q with q; omega))).trans HKD2.out)
  clear hg3
  have a5 := BlockIs.of HKA2.out 5 _ rfl
  have a6 := BlockIs.of HKA2.out 6 _ rfl
  have fa := thaw HKA2.out
  have n5 := BlockIs.of HKA3.out 5 _ rfl
  have n6 := BlockIs.of HKA3.out 6 _ rfl
  have hwr : IntKind.i64.wrap (j.used + 1) = j.used + 1 := by rw [IntKind.wrap_i64]; have := HU.out; omega
  obtain ⟨bd, hbd⟩ : ∃ bd, (j.used + 1 == j.demand) = bd := ⟨_, rfl⟩
  obtain ⟨bc, hbc⟩ : ∃ bc, (j.used + 1 == t.clow) = bc := ⟨_, rfl⟩
  have HV := Lib.hid (HV.out bd bc hbd hbc)
  cases bd
  ·go_wp2_with (rw [<- hw3]; clear hw3 a5 a6 fa)
   clear n5 n6
   have HS0 := Lib.hid (show ChT w ga gb gc gd j t #[.bool false, .bool false, .bool (j.used + 1 == limI t 0)] false false (w3.drew) from ⟨below_drew HB3.out, HKA3.out, HKB3.out, HKC3.out, HKD3.out⟩)
   refine region_inv0 rfl (by kernel_rfl) (WInv (Ch000V ga gb j t) (fun L W => ChT w ga gb gc gd j t (#[.bool false, .bool false, .bool (j.used + 1 == limI t 0)]) (L 25) (L 26) W)) (fun vs h0 => ⟨(fun i h => by cases h), HS0.out⟩) ?_ ?_
   ·simp (config := { maxSteps := 4000000 }) only [List.map, putAll, Act.put, InvE, List.setIfInBounds_toArray, List.set_cons_succ, List.set_cons_zero, Nat.reduceAdd]
    refine ⟨?_, ?_, ?_, ?_, ?_, ?_, ?_, ?_, ?_, ?_, ?_, ?_, ?_, ?_, ?_, ?_, ?_, ?_, ?_, ?_, ?_, ?_, ?_, ?_, ?_, ?_, ?_, ?_, trivial⟩
    all_goals intro L vs W hI hi hn hcl K hK
    ·rw [if_pos (by simp [Region.wanted])]
     have hS := hI.st
     obtain ⟨-, hka, -, -, -⟩ := hS
     have a0 := BlockIs.of hka 0 _ rfl
     have a1 := BlockIs.of hka 1 _ rfl
     have a2 := BlockIs.of hka 2 _ rfl
     have a3 := BlockIs.of hka 3 _ rfl
     have a4 := BlockIs.of hka 4 _ rfl
     have a5 := BlockIs.of hka 5 _ rfl
     have a6 := BlockIs.of hka 6 _ rfl
     clear hka
     have HK := Lib.hid (fun (v : Value) (h : v = .agg #[.int .i64 j.task, .int .i64 j.seq, .int .i64 j.prio, .int .i64 j.release, .int .i64 j.deadline, .int .i64 j.demand, .int .i64 (j.used + 1)]) => hK v W ⟨pv_upd hI.pv h, hI.st⟩)
     clear hK hI hn hcl hi
     go_simp
     exact HK.out _ rfl
    ·rw [if_pos (by simp [Region.wanted])]
     have HK := Lib.hid (fun (v : Value) (h : v = .int .i64 0) => hK v W ⟨pv_upd hI.pv h, hI.st⟩)
     clear hK hI hn hcl hi
     go_simp
     exact HK.out _ rfl
    ·have r1 : vs 1 = _ := hI.pv 1 (hn 1 rfl)
     rw [if_pos (by simp [Region.wanted])]
     simp only [r1] at hK |-
     have HK := Lib.hid (fun (v : Value) (h : v = .bool false) => hK v W ⟨pv_upd hI.pv h, hI.st⟩)
     clear hK hI hn hcl hi
     go_simp
     exact HK.out _ rfl
    ·have r2 : vs 2 = _ := hI.pv 2 (hn 2 rfl)
     rw [if_pos (by simp [Region.wanted])]
     simp only [r2] at hK |-
     have HK := Lib.hid (fun (v : Value) (h : v = .bool false) => hK v W ⟨pv_upd hI.pv h, hI.st⟩)
     clear hK hI hn hcl hi
     go_simp
     exact HK.out _ rfl
    ·have r3 : vs 3 = _ := hI.pv 3 (hn 3 rfl)
     rw [if_neg (by simp [Region.wanted, yielded, r3])]
     exact hK undef W ⟨pv_upd hI.pv rfl, hI.st⟩
    ·have r3 : vs 3 = _ := hI.pv 3 (hn 3 rfl)
     rw [if_neg (by simp [Region.wanted, yielded, r3])]
     exact hK undef W ⟨pv_upd hI.pv rfl, hI.st⟩
    ·have r3 : vs 3 = _ := hI.pv 3 (hn 3 rfl)
     rw [if_neg (by simp [Region.wanted, yielded, r3])]
     exact hK undef W ⟨pv_upd hI.pv rfl, hI.st⟩
    ·have r3 : vs 3 = _ := hI.pv 3 (hn 3 rfl)
     rw [if_neg (by simp [Region.wanted, yielded, r3])]
     exact hK undef W ⟨pv_upd hI.pv rfl, hI.st⟩
    ·have r3 : vs 3 = _ := hI.pv 3 (hn 3 rfl)
     rw [if_neg (by simp [Region.wanted, yielded, r3])]
     exact hK undef W ⟨pv_upd hI.pv rfl, hI.st⟩
    ·have r3 : vs 3 = _ := hI.pv 3 (hn 3 rfl)
     have r8 : vs 8 = undef := hI.pv 8 (hn 8 rfl)
     rw [if_pos (by simp [Region.wanted])]
     simp only [r3, r8] at hK |-
     have HK := Lib.hid (fun (v : Value) (h : v = .bool false) => hK v W ⟨pv_upd hI.pv h, hI.st⟩)
     clear hK hI hn hcl hi
     go_simp
     exact HK.out _ rfl
    ·have r9 : vs 9 = _ := hI.pv 9 (hn 9 rfl)
     rw [if_pos (by simp [Region.wanted])]
     simp only [r9] at hK |-
     have HK := Lib.hid (fun (v : Value) (h : v = .bool false) => hK v W ⟨pv_upd hI.pv h, hI.st⟩)
     clear hK hI hn hcl hi
     go_simp
     exact HK.out _ rfl
    ·have r10 : vs 10 = _ := hI.pv 10 (hn 10 rfl)
     rw [if_neg (by simp [Region.wanted, yielded, r10])]
     exact hK undef W ⟨pv_upd hI.pv rfl, hI.st⟩
    ·have r10 : vs 10 = _ := hI.pv 10 (hn 10 rfl)
     rw [if_neg (by simp [Region.wanted, yielded, r10])]
     exact hK undef W ⟨pv_upd hI.pv rfl, hI.st⟩
    ·have r10 : vs 10 = _ := hI.pv 10 (hn 10 rfl)
     have r12 : vs 12 = undef := hI.pv 12 (hn 12 rfl)
     rw [if_pos (by simp [Region.wanted])]
     simp only [r10, r12] at hK |-
     have HK := Lib.hid (fun (v : Value) (h : v = .bool false) => hK v W ⟨pv_upd hI.pv h, hI.st⟩)
     clear hK hI hn hcl hi
     go_simp
     exact HK.out _ rfl
    ·rw [if_pos (by simp [Region.wanted])]
     have HK := Lib.hid (fun (v : Value) (h : v = .bool false) => hK v W ⟨pv_upd hI.pv h, hI.st⟩)
     clear hK hI hn hcl hi
     go_simp
     exact HK.out _ rfl
    ·rw [if_pos (by simp [Region.wanted])]
     have HK := Lib.hid (fun (v : Value) (h : v = .bool false) => hK v W ⟨pv_upd hI.pv h, hI.st⟩)
     clear hK hI hn hcl hi
     go_simp
     exact HK.out _ rfl
    ·have r15 : vs 15 = _ := hI.pv 15 (hn 15 rfl)
     rw [if_pos (by simp [Region.wanted])]
     simp only [r15] at hK |-
     have HK := Lib.hid (fun (v : Value) (h : v = .bool true) => hK v W ⟨pv_upd hI.pv h, hI.st⟩)
     clear hK hI hn hcl hi
     go_simp
     exact HK.out _ rfl
    ·have r16 : vs 16 = _ := hI.pv 16 (hn 16 rfl)
     rw [if_pos (by simp [Region.wanted])]
     simp only [r16] at hK |-
     have HK := Lib.hid (fun (v : Value) (h : v = .bool true) => hK v W ⟨pv_upd hI.pv h, hI.st⟩)
     clear hK hI hn hcl hi
     go_simp
     exact HK.out _ rfl
    ·have r17 : vs 17 = _ := hI.pv 17 (hn 17 rfl)
     rw [if_pos (by simp [Region.wanted, yielded, r17])]
     simp only [r17] at hK |-
     have HK := Lib.hid (fun (v : Value) (h : v = .pointer (some ⟨ga, 6, none⟩)) => hK v W ⟨pv_upd hI.pv h, hI.st⟩)
     clear hK hI hn hcl hi
     go_simp
     exact HK.out _ rfl
    ·have r17 : vs 17 = _ := hI.pv 17 (hn 17 rfl)
     have r18 : vs 18 = _ := hI.pv 18 (hn 18 rfl)
     rw [if_pos (by simp [Region.wanted, yielded, r17])]
     have hS := hI.st
     obtain ⟨-, hka, -, -, -⟩ := hS
     have a6 := BlockIs.of hka 6 _ rfl
     clear hka
     simp only [r17, r18] at hK |-
     have HK := Lib.hid (fun (v : Value) (h : v = .int .i64 (j.used + 1)) => hK v W ⟨pv_upd hI.pv h, hI.st⟩)
     clear hK hI hn hcl hi
     go_simp
     exact HK.out _ rfl
    ·have r17 : vs 17 = _ := hI.pv 17 (hn 17 rfl)
     rw [if_pos (by simp [Region.wanted, yielded, r17])]
     simp only [r17] at hK |-
     have HK := Lib.hid (fun (v : Value) (h : v = .int .i64 0) => hK v W ⟨pv_upd hI.pv h, hI.st⟩)
     clear hK hI hn hcl hi
     go_simp
     exact HK.out _ rfl
    ·have r17 : vs 17 = _ := hI.pv 17 (hn 17 rfl)
     have r20 : vs 20 = _ := hI.pv 20 (hn 20 rfl)
     rw [if_pos (by simp [Region.wanted, yielded, r17])]
     have hS := hI.st
     obtain ⟨-, -, hkb, -, -⟩ := hS
     have b3 := BlockIs.of hkb 3 _ rfl
     have b4 := BlockIs.of hkb 4 _ rfl
     clear hkb
     simp only [r17, r20] at hK |-
     have HK := Lib.hid (fun (v : Value) (h : v = .int .i64 (limI t 0)) => hK v W ⟨pv_upd hI.pv h, hI.st⟩)
     clear hK hI hn hcl hi
     go_simp
     go_at_call 152
     refine (limit_any gb t _ W b3 b4).mono ?_
     rintro e w' ⟨rfl, hw⟩
     subst w'
     exact HK.out _ rfl
    ·have r17 : vs 17 = _ := hI.pv 17 (hn 17 rfl)
     have r19 : vs 19 = _ := hI.pv 19 (hn 19 rfl)
     have r21 : vs 21 = _ := hI.pv 21 (hn 21 rfl)
     rw [if_pos (by simp [Region.wanted, yielded, r17])]
     simp only [r17, r19, r21] at hK |-
     have HK := Lib.hid (fun (v : Value) (h : v = .bool (j.used + 1 == limI t 0)) => hK v W ⟨pv_upd hI.pv h, hI.st⟩)
     clear hK hI hn hcl hi
     go_simp
     exact HK.out _ rfl
    ·have r17 : vs 17 = _ := hI.pv 17 (hn 17 rfl)
     have r22 : vs 22 = _ := hI.pv 22 (hn 22 rfl)
     rw [if_pos (by simp [Region.wanted])]
     simp only [r17, r22] at hK |-
     have HK := Lib.hid (fun (v : Value) (h : v = .bool (j.used + 1 == limI t 0)) => hK v W ⟨pv_upd hI.pv h, hI.st⟩)
     clear hK hI hn hcl hi
     go_simp
     exact HK.out _ rfl
    ·have r13 : vs 13 = _ := hI.pv 13 (hn 13 rfl)
     have r14 : vs 14 = _ := hI.pv 14 (hn 14 rfl)
     have r23 : vs 23 = _ := hI.pv 23 (hn 23 rfl)
     rw [if_pos (by simp [Region.wanted])]
     simp only [r13, r14, r23] at hK |-
     have HK := Lib.hid (fun (v : Value) (h : v = .agg #[.bool false, .bool false, .bool (j.used + 1 == limI t 0)]) => hK v W ⟨pv_upd hI.pv h, hI.st⟩)
     clear hK hI hn hcl hi
     go_simp
     exact HK.out _ rfl
    ·have r0 : vs 0 = _ := hI.pv 0 (hn 0 rfl)
     rw [if_pos (by simp [Region.wanted])]
     simp only [r0] at hK |-
     obtain ⟨hb, hka, hkb, hkc, hkd⟩ := hI.st
     rw [hi] at hkc
     simp only [Bool.false_eq_true, if_false] at hkc
     obtain ⟨wz, hw_wz⟩ : ∃ wz, wz = put7 W gc (.int .i64 j.task) (.int .i64 j.seq) (.int .i64 j.prio) (.int .i64 j.release) (.int .i64 j.deadline) (.int .i64 j.demand) (.int .i64 (j.used + 1)) := ⟨_, rfl⟩
     have hk_z := put7_at hkc (.int .i64 j.task) (.int .i64 j.seq) (.int .i64 j.prio) (.int .i64 j.release) (.int .i64 j.deadline) (.int .i64 j.demand) (.int .i64 (j.used + 1))
     have hg_z := put7_grown W gc (.int .i64 j.task) (.int .i64 j.seq) (.int .i64 j.prio) (.int .i64 j.release) (.int .i64 j.deadline) (.int .i64 j.demand) (.int .i64 (j.used + 1))
     rw [<- hw_wz] at hk_z hg_z
     unfold put7 at hw_wz
     have o0 := BlockIs.of hkc 0 _ rfl
     have o1 := BlockIs.of hkc 1 _ rfl
     have o2 := BlockIs.of hkc 2 _ rfl
     have o3 := BlockIs.of hkc 3 _ rfl
     have o4 := BlockIs.of hkc 4 _ rfl
     have o5 := BlockIs.of hkc 5 _ rfl
     have o6 := BlockIs.of hkc 6 _ rfl
     have fz := thaw hkc
     have HN := Lib.hid (show WInv (Ch000V ga gb j t) (fun L W => ChT w ga gb gc gd j t (#[.bool false, .bool false, .bool (j.used + 1 == limI t 0)]) (L 25) (L 26) W) (updB L 25) (upd vs 25 undef) wz from ⟨pv_upd hI.pv trivial, ⟨bput hb hg_z HGS.out.2.1 (Nat.le_refl _), ((hg_z.block _ (lt_of_block hka) (fun q => by injection q with q; have := HGS.out; omega)).trans hka), ((hg_z.block _ (lt_of_block hkb) (fun q => by injection q with q; have := HGS.out; omega)).trans hkb), hk_z, ((hg_z.block _ (lt_of_block hkd) (fun q => by injection q with q; have := HGS.out; omega)).trans hkd)⟩⟩)
     have HK := Lib.hid hK
     clear hK hI hn hcl hi hb hka hkb hkc hkd hk_z hg_z
     go_simp
     rw [<- hw_wz]
     exact HK.out _ _ HN.out
    ·have r24 : vs 24 = _ := hI.pv 24 (hn 24 rfl)
     rw [if_pos (by simp [Region.wanted])]
     simp only [r24] at hK |-
     obtain ⟨hb, hka, hkb, hkc, hkd⟩ := hI.st
     rw [hi] at hkd
     simp only [Bool.false_eq_true, if_false] at hkd
     obtain ⟨wz, hw_wz⟩ : ∃ wz, wz = put3 W gd (.bool false) (.bool false) (.bool (j.used + 1 == limI t 0)) := ⟨_, rfl⟩
     have hk_z := put3_at hkd (.bool false) (.bool false) (.bool (j.used + 1 == limI t 0))
     have hg_z := put3_grown W gd (.bool false) (.bool false) (.bool (j.used + 1 == limI t 0))
     rw [<- hw_wz] at hk_z hg_z
     unfold put3 at hw_wz
     have o0 := BlockIs.of hkd 0 _ rfl
     have o1 := BlockIs.of hkd 1 _ rfl
     have o2 := BlockIs.of hkd 2 _ rfl
     have fz := thaw hkd
     have HN := Lib.hid (show WInv (Ch000V ga gb j t) (fun L W => ChT w ga gb gc gd j t (#[.bool false, .bool false, .bool (j.used + 1 == limI t 0)]) (L 25) (L 26) W) (updB L 26) (upd vs 26 undef) wz from ⟨pv_upd hI.pv trivial, ⟨bput hb hg_z HGS.out.2.2.1 (Nat.le_refl _), ((hg_z.block _ (lt_of_block hka) (fun q => by injection q with q; have := HGS.out; omega)).trans hka), ((hg_z.block _ (lt_of_block hkb) (fun q => by injection q with q; have := HGS.out; omega)).trans hkb), ((hg_z.block _ (lt_of_block hkc) (fun q => by injection q with q; have := HGS.out; omega)).trans hkc), hk_z⟩⟩)
     have HK := Lib.hid hK
     clear hK hI hn hcl hi hb hka hkb hkc hkd hk_z hg_z
     go_simp
     rw [<- hw_wz]
     exact HK.out _ _ HN.out
    ·rw [if_pos (by simp [Region.wanted])]
     have HK := Lib.hid (fun (v : Value) (h : v = .int .i64 0) => hK v W ⟨pv_upd hI.pv h, hI.st⟩)
     clear hK hI hn hcl hi
     go_simp
     exact HK.out _ rfl
   ·intro vs W hI
    simp only [List.map, putAll, Act.put, List.setIfInBounds_toArray, List.set_cons_succ, List.set_cons_zero, Nat.reduceAdd]
    have hS := hI.st
    have r0 : vs 0 = _ := hI.pv 0 (by simp)
    have r1 : vs 1 = _ := hI.pv 1 (by simp)
    have r2 : vs 2 = _ := hI.pv 2 (by simp)
    have r3 : vs 3 = _ := hI.pv 3 (by simp)
    have r4 : vs 4 = undef := hI.pv 4 (by simp)
    have r5 : vs 5 = undef := hI.pv 5 (by simp)
    have r6 : vs 6 = undef := hI.pv 6 (by simp)
    have r7 : vs 7 = undef := hI.pv 7 (by simp)
    have r8 : vs 8 = undef := hI.pv 8 (by simp)
    have r9 : vs 9 = _ := hI.pv 9 (by simp)
    have r10 : vs 10 = _ := hI.pv 10 (by simp)
    have r11 : vs 11 = undef := hI.pv 11 (by simp)
    have r12 : vs 12 = undef := hI.pv 12 (by simp)
    have r13 : vs 13 = _ := hI.pv 13 (by simp)
    have r14 : vs 14 = _ := hI.pv 14 (by simp)
    have r15 : vs 15 = _ := hI.pv 15 (by simp)
    have r16 : vs 16 = _ := hI.pv 16 (by simp)
    have r17 : vs 17 = _ := hI.pv 17 (by simp)
    have r18 : vs 18 = _ := hI.pv 18 (by simp)
    have r19 : vs 19 = _ := hI.pv 19 (by simp)
    have r20 : vs 20 = _ := hI.pv 20 (by simp)
    have r21 : vs 21 = _ := hI.pv 21 (by simp)
    have r22 : vs 22 = _ := hI.pv 22 (by simp)
    have r23 : vs 23 = _ := hI.pv 23 (by simp)
    have r24 : vs 24 = _ := hI.pv 24 (by simp)
    have r27 : vs 27 = _ := hI.pv 27 (by simp)
    simp only [r0, r1, r2, r3, r4, r5, r6, r7, r8, r9, r10, r11, r12, r13, r14, r15, r16, r17, r18, r19, r20, r21, r22, r23, r24, r27]
    clear hI r0 r1 r2 r3 r4 r5 r6 r7 r8 r9 r10 r11 r12 r13 r14 r15 r16 r17 r18 r19 r20 r21 r22 r23 r24 r27
    obtain ⟨hb, -, -, hkc, hkd⟩ := hS
    have c0 := BlockIs.of hkc 0 _ rfl
    have c1 := BlockIs.of hkc 1 _ rfl
    have c2 := BlockIs.of hkc 2 _ rfl
    have c3 := BlockIs.of hkc 3 _ rfl
    have c4 := BlockIs.of hkc 4 _ rfl
    have c5 := BlockIs.of hkc 5 _ rfl
    have c6 := BlockIs.of hkc 6 _ rfl
    have d0 := BlockIs.of hkd 0 _ rfl
    have d1 := BlockIs.of hkd 1 _ rfl
    have d2 := BlockIs.of hkd 2 _ rfl
    have HBW := Lib.hid hb
    clear hb hkc hkd
    go_wp2_with fail
    refine bodyPost_ret (v := .tuple #[jobV (chJ j), .agg #[.bool false, .bool false, .bool (j.used + 1 == limI t 0)], .int .i64 0]) (by simp [results, Tryz.results143, go_sem, c0, c1, c2, c3, c4, c5, c6, d0, d1, d2, jobV, chJ]) rfl ⟨by rw [HV.out]; rfl, HBW.out⟩
  ·go_wp2_with (rw [<- hw3]; clear hw3 a5 a6 fa)
   clear n5 n6
   have HS0 := Lib.hid (show ChT w ga gb gc gd j t #[.bool false, .bool true, .bool false] false false (w3.drew) from ⟨below_drew HB3.out, HKA3.out, HKB3.out, HKC3.out, HKD3.out⟩)
   refine region_inv0 rfl (by kernel_rfl) (WInv (Ch001V ga gb j t) (fun L W => ChT w ga gb gc gd j t (#[.bool false, .bool true, .bool false]) (L 25) (L 26) W)) (fun vs h0 => ⟨(fun i h => by cases h), HS0.out⟩) ?_ ?_
   ·simp (config := { maxSteps := 4000000 }) only [List.map, putAll, Act.put, InvE, List.setIfInBounds_toArray, List.set_cons_succ, List.set_cons_zero, Nat.reduceAdd]
    refine ⟨?_, ?_, ?_, ?_, ?_, ?_, ?_, ?_, ?_, ?_, ?_, ?_, ?_, ?_, ?_, ?_, ?_, ?_, ?_, ?_, ?_, ?_, ?_, ?_, ?_, ?_, ?_, ?_, trivial⟩
    all_goals intro L vs W hI hi hn hcl K hK
    ·rw [if_pos (by simp [Region.wanted])]
     have hS := hI.st
     obtain ⟨-, hka, -, -, -⟩ := hS
     have a0 := BlockIs.of hka 0 _ rfl
     have a1 := BlockIs.of hka 1 _ rfl
     have a2 := BlockIs.of hka 2 _ rfl
     have a3 := BlockIs.of hka 3 _ rfl
     have a4 := BlockIs.of hka 4 _ rfl
     have a5 := BlockIs.of hka 5 _ rfl
     have a6 := BlockIs.of hka 6 _ rfl
     clear hka
     have HK := Lib.hid (fun (v : Value) (h : v = .agg #[.int .i64 j.task, .int .i64 j.seq, .int .i64 j.prio, .int .i64 j.release, .int .i64 j.deadline, .int .i64 j.demand, .int .i64 (j.used + 1)]) => hK v W ⟨pv_upd hI.pv h, hI.st⟩)
     clear hK hI hn hcl hi
     go_simp
     exact HK.out _ rfl
    ·rw [if_pos (by simp [Region.wanted])]
     have HK := Lib.hid (fun (v : Value) (h : v = .int .i64 0) => hK v W ⟨pv_upd hI.pv h, hI.st⟩)
     clear hK hI hn hcl hi
     go_simp
     exact HK.out _ rfl
    ·have r1 : vs 1 = _ := hI.pv 1 (hn 1 rfl)
     rw [if_pos (by simp [Region.wanted])]
     simp only [r1] at hK |-
     have HK := Lib.hid (fun (v : Value) (h : v = .bool false) => hK v W ⟨pv_upd hI.pv h, hI.st⟩)
     clear hK hI hn hcl hi
     go_simp
     exact HK.out _ rfl
    ·have r2 : vs 2 = _ := hI.pv 2 (hn 2 rfl)
     rw [if_pos (by simp [Region.wanted])]
     simp only [r2] at hK |-
     have HK := Lib.hid (fun (v : Value) (h : v = .bool false) => hK v W ⟨pv_upd hI.pv h, hI.st⟩)
     clear hK hI hn hcl hi
     go_simp
     exact HK.out _ rfl
    ·have r3 : vs 3 = _ := hI.pv 3 (hn 3 rfl)
     rw [if_neg (by simp [Region.wanted, yielded, r3])]
     exact hK undef W ⟨pv_upd hI.pv rfl, hI.st⟩
    ·have r3 : vs 3 = _ := hI.pv 3 (hn 3 rfl)
     rw [if_neg (by simp [Region.wanted, yielded, r3])]
     exact hK undef W ⟨pv_upd hI.pv rfl, hI.st⟩
    ·have r3 : vs 3 = _ := hI.pv 3 (hn 3 rfl)
     rw [if_neg (by simp [Region.wanted, yielded, r3])]
     exact hK undef W ⟨pv_upd hI.pv rfl, hI.st⟩
    ·have r3 : vs 3 = _ := hI.pv 3 (hn 3 rfl)
     rw [if_neg (by simp [Region.wanted, yielded, r3])]
     exact hK undef W ⟨pv_upd hI.pv rfl, hI.st⟩
    ·have r3 : vs 3 = _ := hI.pv 3 (hn 3 rfl)
     rw [if_neg (by simp [Region.wanted, yielded, r3])]
     exact hK undef W ⟨pv_upd hI.pv rfl, hI.st⟩
    ·have r3 : vs 3 = _ := hI.pv 3 (hn 3 rfl)
     have r8 : vs 8 = undef := hI.pv 8 (hn 8 rfl)
     rw [if_pos (by simp [Region.wanted])]
     simp only [r3, r8] at hK |-
     have HK := Lib.hid (fun (v : Value) (h : v = .bool false) => hK v W ⟨pv_upd hI.pv h, hI.st⟩)
     clear hK hI hn hcl hi
     go_simp
     exact HK.out _ rfl
    ·have r9 : vs 9 = _ := hI.pv 9 (hn 9 rfl)
     rw [if_pos (by simp [Region.wanted])]
     simp only [r9] at hK |-
     have HK := Lib.hid (fun (v : Value) (h : v = .bool false) => hK v W ⟨pv_upd hI.pv h, hI.st⟩)
     clear hK hI hn hcl hi
     go_simp
     exact HK.out _ rfl
    ·have r10 : vs 10 = _ := hI.pv 10 (hn 10 rfl)
     rw [if_neg (by simp [Region.wanted, yielded, r10])]
     exact hK undef W ⟨pv_upd hI.pv rfl, hI.st⟩
    ·have r10 : vs 10 = _ := hI.pv 10 (hn 10 rfl)
     rw [if_neg (by simp [Region.wanted, yielded, r10])]
     exact hK undef W ⟨pv_upd hI.pv rfl, hI.st⟩
    ·have r10 : vs 10 = _ := hI.pv 10 (hn 10 rfl)
     have r12 : vs 12 = undef := hI.pv 12 (hn 12 rfl)
     rw [if_pos (by simp [Region.wanted])]
     simp only [r10, r12] at hK |-
     have HK := Lib.hid (fun (v : Value) (h : v = .bool false) => hK v W ⟨pv_upd hI.pv h, hI.st⟩)
     clear hK hI hn hcl hi
     go_simp
     exact HK.out _ rfl
    ·rw [if_pos (by simp [Region.wanted])]
     have HK := Lib.hid (fun (v : Value) (h : v = .bool true) => hK v W ⟨pv_upd hI.pv h, hI.st⟩)
     clear hK hI hn hcl hi
     go_simp
     exact HK.out _ rfl
    ·rw [if_pos (by simp [Region.wanted])]
     have HK := Lib.hid (fun (v : Value) (h : v = .bool true) => hK v W ⟨pv_upd hI.pv h, hI.st⟩)
     clear hK hI hn hcl hi
     go_simp
     exact HK.out _ rfl
    ·have r15 : vs 15 = _ := hI.pv 15 (hn 15 rfl)
     rw [if_pos (by simp [Region.wanted])]
     simp only [r15] at hK |-
     have HK := Lib.hid (fun (v : Value) (h : v = .bool false) => hK v W ⟨pv_upd hI.pv h, hI.st⟩)
     clear hK hI hn hcl hi
     go_simp
     exact HK.out _ rfl
    ·have r16 : vs 16 = _ := hI.pv 16 (hn 16 rfl)
     rw [if_pos (by simp [Region.wanted])]
     simp only [r16] at hK |-
     have HK := Lib.hid (fun (v : Value) (h : v = .bool false) => hK v W ⟨pv_upd hI.pv h, hI.st⟩)
     clear hK hI hn hcl hi
     go_simp
     exact HK.out _ rfl
    ·have r17 : vs 17 = _ := hI.pv 17 (hn 17 rfl)
     rw [if_neg (by simp [Region.wanted, yielded, r17])]
     exact hK undef W ⟨pv_upd hI.pv rfl, hI.st⟩
    ·have r17 : vs 17 = _ := hI.pv 17 (hn 17 rfl)
     rw [if_neg (by simp [Region.wanted, yielded, r17])]
     exact hK undef W ⟨pv_upd hI.pv rfl, hI.st⟩
    ·have r17 : vs 17 = _ := hI.pv 17 (hn 17 rfl)
     rw [if_neg (by simp [Region.wanted, yielded, r17])]
     exact hK undef W ⟨pv_upd hI.pv rfl, hI.st⟩
    ·have r17 : vs 17 = _ := hI.pv 17 (hn 17 rfl)
     rw [if_neg (by simp [Region.wanted, yielded, r17])]
     exact hK undef W ⟨pv_upd hI.pv rfl, hI.st⟩
    ·have r17 : vs 17 = _ := hI.pv 17 (hn 17 rfl)
     rw [if_neg (by simp [Region.wanted, yielded, r17])]
     exact hK undef W ⟨pv_upd hI.pv rfl, hI.st⟩
    ·have r17 : vs 17 = _ := hI.pv 17 (hn 17 rfl)
     have r22 : vs 22 = undef := hI.pv 22 (hn 22 rfl)
     rw [if_pos (by simp [Region.wanted])]
     simp only [r17, r22] at hK |-
     have HK := Lib.hid (fun (v : Value) (h : v = .bool false) => hK v W ⟨pv_upd hI.pv h, hI.st⟩)
     clear hK hI hn hcl hi
     go_simp
     exact HK.out _ rfl
    ·have r13 : vs 13 = _ := hI.pv 13 (hn 13 rfl)
     have r14 : vs 14 = _ := hI.pv 14 (hn 14 rfl)
     have r23 : vs 23 = _ := hI.pv 23 (hn 23 rfl)
     rw [if_pos (by simp [Region.wanted])]
     simp only [r13, r14, r23] at hK |-
     have HK := Lib.hid (fun (v : Value) (h : v = .agg #[.bool false, .bool true, .bool false]) => hK v W ⟨pv_upd hI.pv h, hI.st⟩)
     clear hK hI hn hcl hi
     go_simp
     exact HK.out _ rfl
    ·have r0 : vs 0 = _ := hI.pv 0 (hn 0 rfl)
     rw [if_pos (by simp [Region.wanted])]
     simp only [r0] at hK |-
     obtain ⟨hb, hka, hkb, hkc, hkd⟩ := hI.st
     rw [hi] at hkc
     simp only [Bool.false_eq_true, if_false] at hkc
     obtain ⟨wz, hw_wz⟩ : ∃ wz, wz = put7 W gc (.int .i64 j.task) (.int .i64 j.seq) (.int .i64 j.prio) (.int .i64 j.release) (.int .i64 j.deadline) (.int .i64 j.demand) (.int .i64 (j.used + 1)) := ⟨_, rfl⟩
     have hk_z := put7_at hkc (.int .i64 j.task) (.int .i64 j.seq) (.int .i64 j.prio) (.int .i64 j.release) (.int .i64 j.deadline) (.int .i64 j.demand) (.int .i64 (j.used + 1))
     have hg_z := put7_grown W gc (.int .i64 j.task) (.int .i64 j.seq) (.int .i64 j.prio) (.int .i64 j.release) (.int .i64 j.deadline) (.int .i64 j.demand) (.int .i64 (j.used + 1))
     rw [<- hw_wz] at hk_z hg_z
     unfold put7 at hw_wz
     have o0 := BlockIs.of hkc 0 _ rfl
     have o1 := BlockIs.of hkc 1 _ rfl
     have o2 := BlockIs.of hkc 2 _ rfl
     have o3 := BlockIs.of hkc 3 _ rfl
     have o4 := BlockIs.of hkc 4 _ rfl
     have o5 := BlockIs.of hkc 5 _ rfl
     have o6 := BlockIs.of hkc 6 _ rfl
     have fz := thaw hkc
     have HN := Lib.hid (show WInv (Ch001V ga gb j t) (fun L W => ChT w ga gb gc gd j t (#[.bool false, .bool true, .bool false]) (L 25) (L 26) W) (updB L 25) (upd vs 25 undef) wz from ⟨pv_upd hI.pv trivial, ⟨bput hb hg_z HGS.out.2.1 (Nat.le_refl _), ((hg_z.block _ (lt_of_block hka) (fun q => by injection q with q; have := HGS.out; omega)).trans hka), ((hg_z.block _ (lt_of_block hkb) (fun q => by injection q with q; have := HGS.out; omega)).trans hkb), hk_z, ((hg_z.block _ (lt_of_block hkd) (fun q => by injection q with q; have := HGS.out; omega)).trans hkd)⟩⟩)
     have HK := Lib.hid hK
     clear hK hI hn hcl hi hb hka hkb hkc hkd hk_z hg_z
     go_simp
     rw [<- hw_wz]
     exact HK.out _ _ HN.out
    ·have r24 : vs 24 = _ := hI.pv 24 (hn 24 rfl)
     rw [if_pos (by simp [Region.wanted])]
     simp only [r24] at hK |-
     obtain ⟨hb, hka, hkb, hkc, hkd⟩ := hI.st
     rw [hi] at hkd
     simp only [Bool.false_eq_true, if_false] at hkd
     obtain ⟨wz, hw_wz⟩ : ∃ wz, wz = put3 W gd (.bool false) (.bool true) (.bool false) := ⟨_, rfl⟩
     have hk_z := put3_at hkd (.bool false) (.bool true) (.bool false)
     have hg_z := put3_grown W gd (.bool false) (.bool true) (.bool false)
     rw [<- hw_wz] at hk_z hg_z
     unfold put3 at hw_wz
     have o0 := BlockIs.of hkd 0 _ rfl
     have o1 := BlockIs.of hkd 1 _ rfl
     have o2 := BlockIs.of hkd 2 _ rfl
     have fz := thaw hkd
     have HN := Lib.hid (show WInv (Ch001V ga gb j t) (fun L W => ChT w ga gb gc gd j t (#[.bool false, .bool true, .bool false]) (L 25) (L 26) W) (updB L 26) (upd vs 26 undef) wz from ⟨pv_upd hI.pv trivial, ⟨bput hb hg_z HGS.out.2.2.1 (Nat.le_refl _), ((hg_z.block _ (lt_of_block hka) (fun q => by injection q with q; have := HGS.out; omega)).trans hka), ((hg_z.block _ (lt_of_block hkb) (fun q => by injection q with q; have := HGS.out; omega)).trans hkb), ((hg_z.block _ (lt_of_block hkc) (fun q => by injection q with q; have := HGS.out; omega)).trans hkc), hk_z⟩⟩)
     have HK := Lib.hid hK
     clear hK hI hn hcl hi hb hka hkb hkc hkd hk_z hg_z
     go_simp
     rw [<- hw_wz]
     exact HK.out _ _ HN.out
    ·rw [if_pos (by simp [Region.wanted])]
     have HK := Lib.hid (fun (v : Value) (h : v = .int .i64 0) => hK v W ⟨pv_upd hI.pv h, hI.st⟩)
     clear hK hI hn hcl hi
     go_simp
     exact HK.out _ rfl
   ·intro vs W hI
    simp only [List.map, putAll, Act.put, List.setIfInBounds_toArray, List.set_cons_succ, List.set_cons_zero, Nat.reduceAdd]
    have hS := hI.st
    have r0 : vs 0 = _ := hI.pv 0 (by simp)
    have r1 : vs 1 = _ := hI.pv 1 (by simp)
    have r2 : vs 2 = _ := hI.pv 2 (by simp)
    have r3 : vs 3 = _ := hI.pv 3 (by simp)
    have r4 : vs 4 = undef := hI.pv 4 (by simp)
    have r5 : vs 5 = undef := hI.pv 5 (by simp)
    have r6 : vs 6 = undef := hI.pv 6 (by simp)
    have r7 : vs 7 = undef := hI.pv 7 (by simp)
    have r8 : vs 8 = undef := hI.pv 8 (by simp)
    have r9 : vs 9 = _ := hI.pv 9 (by simp)
    have r10 : vs 10 = _ := hI.pv 10 (by simp)
    have r11 : vs 11 = undef := hI.pv 11 (by simp)
    have r12 : vs 12 = undef := hI.pv 12 (by simp)
    have r13 : vs 13 = _ := hI.pv 13 (by simp)
    have r14 : vs 14 = _ := hI.pv 14 (by simp)
    have r15 : vs 15 = _ := hI.pv 15 (by simp)
    have r16 : vs 16 = _ := hI.pv 16 (by simp)
    have r17 : vs 17 = _ := hI.pv 17 (by simp)
    have r18 : vs 18 = undef := hI.pv 18 (by simp)
    have r19 : vs 19 = undef := hI.pv 19 (by simp)
    have r20 : vs 20 = undef := hI.pv 20 (by simp)
    have r21 : vs 21 = undef := hI.pv 21 (by simp)
    have r22 : vs 22 = undef := hI.pv 22 (by simp)
    have r23 : vs 23 = _ := hI.pv 23 (by simp)
    have r24 : vs 24 = _ := hI.pv 24 (by simp)
    have r27 : vs 27 = _ := hI.pv 27 (by simp)
    simp only [r0, r1, r2, r3, r4, r5, r6, r7, r8, r9, r10, r11, r12, r13, r14, r15, r16, r17, r18, r19, r20, r21, r22, r23, r24, r27]
    clear hI r0 r1 r2 r3 r4 r5 r6 r7 r8 r9 r10 r11 r12 r13 r14 r15 r16 r17 r18 r19 r20 r21 r22 r23 r24 r27
    obtain ⟨hb, -, -, hkc, hkd⟩ := hS
    have c0 := BlockIs.of hkc 0 _ rfl
    have c1 := BlockIs.of hkc 1 _ rfl
    have c2 := BlockIs.of hkc 2 _ rfl
    have c3 := BlockIs.of hkc 3 _ rfl
    have c4 := BlockIs.of hkc 4 _ rfl
    have c5 := BlockIs.of hkc 5 _ rfl
    have c6 := BlockIs.of hkc 6 _ rfl
    have d0 := BlockIs.of hkd 0 _ rfl
    have d1 := BlockIs.of hkd 1 _ rfl
    have d2 := BlockIs.of hkd 2 _ rfl
    have HBW := Lib.hid hb
    clear hb hkc hkd
    go_wp2_with fail
    refine bodyPost_ret (v := .tuple #[jobV (chJ j), .agg #[.bool false, .bool true, .bool false], .int .i64 0]) (by simp [results, Tryz.results143, go_sem, c0, c1, c2, c3, c4, c5, c6, d0, d1, d2, jobV, chJ]) rfl ⟨by rw [HV.out]; rfl, HBW.out⟩
 ·have hl0 := True.intro
  obtain ⟨wa, ga, hw_wa, hg_ga, hb_wa, hk_ga, hs_wa⟩ := alloc_all w (.cells #[.int .i64 j.task, .int .i64 j.seq, .int .i64 j.prio, .int .i64 j.release, .int .i64 j.deadline, .int .i64 j.demand, .int .i64 j.used] 124)
  obtain ⟨wb, gb, hw_wb, hg_gb, hb_wb, hk_gb, hs_wb⟩ := alloc_all wa (.cells #[.int .i64 t.kind, .int .i64 t.period, .int .i64 t.deadline, .int .i64 t.clow, .int .i64 t.chigh, .int .i64 t.prio] 51)
  obtain ⟨wc, gc, hw_wc, hg_gc, hb_wc, hk_gc, hs_wc⟩ := alloc_all wb (.cells #[.int .i64 0, .int .i64 0, .int .i64 0, .int .i64 0, .int .i64 0, .int .i64 0, .int .i64 0] 124)
  obtain ⟨wd, gd, hw_wd, hg_gd, hb_wd, hk_gd, hs_wd⟩ := alloc_all wc (.cells #[.bool false, .bool false, .bool false] 230)
  obtain ⟨we, ge, hw_we, hg_ge, hb_we, hk_ge, hs_we⟩ := alloc_all wd (.cells #[.int .i64 j.task, .int .i64 j.seq, .int .i64 j.prio, .int .i64 j.release, .int .i64 j.deadline, .int .i64 j.demand, .int .i64 j.used] 124)
  have HBE := Lib.hid (bthen hb_wa (bthen hb_wb (bthen hb_wc (bthen hb_wd hb_we))))
  have HJS := Lib.hid (show JobsV we (.slice (some ⟨ge, 0, none⟩) 1 1) [j] from slice1 (by decide) ⟨BlockIs.of hk_ge 0 _ rfl, BlockIs.of hk_ge 1 _ rfl, BlockIs.of hk_ge 2 _ rfl, BlockIs.of hk_ge 3 _ rfl, BlockIs.of hk_ge 4 _ rfl, BlockIs.of hk_ge 5 _ rfl, BlockIs.of hk_ge 6 _ rfl⟩)
  have HKA := Lib.hid (keep_at (keep_at (keep_at (keep_at hk_ga hb_wb) hb_wc) hb_wd) hb_we)
  have HKB := Lib.hid (keep_at (keep_at (keep_at hk_gb hb_wc) hb_wd) hb_we)
  have HKC := Lib.hid (keep_at (keep_at hk_gc hb_wd) hb_we)
  have HKD := Lib.hid (keep_at hk_gd hb_we)
  have HGS := Lib.hid (show w.heap.size <= ga /\ w.heap.size <= gc /\ w.heap.size <= gd /\ ga ≠ gb /\ ga ≠ gc /\ ga ≠ gd /\ gb ≠ gc /\ gb ≠ gd /\ gc ≠ gd by omega)
  have a0 := BlockIs.of HKA.out 0 _ rfl
  have a1 := BlockIs.of HKA.out 1 _ rfl
  have a2 := BlockIs.of HKA.out 2 _ rfl
  have a3 := BlockIs.of HKA.out 3 _ rfl
  have a4 := BlockIs.of HKA.out 4 _ rfl
  have a5 := BlockIs.of HKA.out 5 _ rfl
  have a6 := BlockIs.of HKA.out 6 _ rfl
  clear hb_wa hb_wb hb_wc hb_wd hb_we hk_ga hk_gb hk_gc hk_gd hk_ge
  have hm := jobsMay_one hj
  have HM := Lib.hid hm
  have HT := Lib.hid ht
  have HU := Lib.hid (show 0 <= j.used /\ j.used <= 65535 by unfold jobMay at hj; simp only [decide_eq_true_eq] at hj; omega)
  clear hm ht hj
  go_enter Tryz.func143, Tryz.ntmps143
  go_wp2_with fail
  rw [<- hw_wa, <- hw_wb, <- hw_wc, <- hw_wd, <- hw_we]
  (try rw [<- hs_wa])
  (try rw [<- hs_wb])
  (try rw [<- hs_wc])
  (try rw [<- hs_wd])
  (try rw [<- hg_ge])
  (try rw [<- hg_gd])
  (try rw [<- hg_gc])
  (try rw [<- hg_gb])
  (try rw [<- hg_ga])
  clear hw_wa hw_wb hw_wc hw_wd hw_we hg_ga hg_gb hg_gc hg_gd hg_ge hs_wa hs_wb hs_wc hs_wd hs_we
  refine (readyMay_any _ [j] _ HJS.out).mono ?_
  rw [HM.out]
  rintro e w1 ⟨rfl, hb⟩
  have HB1 := Lib.hid (bthen HBE.out hb)
  have HKA1 := Lib.hid (keep_at HKA.out hb)
  have HKB1 := Lib.hid (keep_at HKB.out hb)
  have HKC1 := Lib.hid (keep_at HKC.out hb)
  have HKD1 := Lib.hid (keep_at HKD.out hb)
  clear hb a0 a1 a2 a3 a4 a5 a6
  have b0 := BlockIs.of HKB1.out 0 _ rfl
  have b1 := BlockIs.of HKB1.out 1 _ rfl
  have b2 := BlockIs.of HKB1.out 2 _ rfl
  have b3 := BlockIs.of HKB1.out 3 _ rfl
  have b4 := BlockIs.of HKB1.out 4 _ rfl
  have b5 := BlockIs.of HKB1.out 5 _ rfl
  go_wp2_with fail
  refine (taskMay_any t _).mono ?_
  rw [HT.out]
  rintro e w2 ⟨rfl, hb⟩
  have HB2 := Lib.hid (bthen HB1.out hb)
  have HKA2 := Lib.hid (keep_at HKA1.out hb)
  have HKB2 := Lib.hid (keep_at HKB1.out hb)
  have HKC2 := Lib.hid (keep_at HKC1.out hb)
  have HKD2 := Lib.hid (keep_at HKD1.out hb)
  clear hb b0 b1 b2 b3 b4 b5
  obtain ⟨w3, hw3⟩ : ∃ w3, w3 = w2.setCell ⟨ga, 6, none⟩ (.int .i64 (j.used + 1)) := ⟨_, rfl⟩
  have hg3 : w2.grownBy w3 (some ga) := by rw [hw3]; exact set_grown _ _ _ _
  have HB3 := Lib.hid (bput HB2.out hg3 HGS.out.1 (Nat.le_refl _))
  have HKA3 := Lib.hid (show w3.heap[ga]? = some (.cells #[.int .i64 j.task, .int .i64 j.seq, .int .i64 j.prio, .int .i64 j.release, .int .i64 j.deadline, .int .i64 j.demand, .int .i64 (j.used + 1)] 124 (0, 0)) by
   rw [hw3]
   have := blk_set HKA2.out 6 (.int .i64 (j.used + 1))
   simpa using this)
  have HKB3 := Lib.hid ((hg3.block gb (lt_of_block HKB2.out) (fun q => HGS.out.2.2.2.1 (by injection q with q; omega))).trans HKB2.out)
  have HKC3 := Lib.hid ((hg3.block gc (lt_of_block HKC2.out) (fun q => HGS.out.2.2.2.2.1 (by injection q with q; omega))).trans HKC2.out)
  have HKD3 := Lib.hid ((hg3.block gd (lt_of_block HKD2.out) (fun q => HGS.out.2.2.2.2.2.1 (by injection q with q; omega))).trans HKD2.out)
  clear hg3
  have a5 := BlockIs.of HKA2.out 5 _ rfl
  have a6 := BlockIs.of HKA2.out 6 _ rfl
  have fa := thaw HKA2.out
  have n5 := BlockIs.of HKA3.out 5 _ rfl
  have n6 := BlockIs.of HKA3.out 6 _ rfl
  have hwr : IntKind.i64.wrap (j.used + 1) = j.used + 1 := by rw [IntKind.wrap_i64]; have := HU.out; omega
  obtain ⟨bd, hbd⟩ : ∃ bd, (j.used + 1 == j.demand) = bd := ⟨_, rfl⟩
  obtain ⟨bc, hbc⟩ : ∃ bc, (j.used + 1 == t.clow) = bc := ⟨_, rfl⟩
  have HV := Lib.hid (HV.out bd bc hbd hbc)
  cases bd
  ·cases bc
   ·go_wp2_with (rw [<- hw3]; clear hw3 a5 a6 fa)
    clear n5 n6
    have HS0 := Lib.hid (show ChT w ga gb gc gd j t #[.bool false, .bool false, .bool (j.used + 1 == limI t 1)] false false (w3.drew) from ⟨below_drew HB3.out, HKA3.out, HKB3.out, HKC3.out, HKD3.out⟩)
    refine region_inv0 rfl (by kernel_rfl) (WInv (Ch100V ga gb j t) (fun L W => ChT w ga gb gc gd j t (#[.bool false, .bool false, .bool (j.used + 1 == limI t 1)]) (L 25) (L 26) W)) (fun vs h0 => ⟨(fun i h => by cases h), HS0.out⟩) ?_ ?_
    ·simp (config := { maxSteps := 4000000 }) only [List.map, putAll, Act.put, InvE, List.setIfInBounds_toArray, List.set_cons_succ, List.set_cons_zero, Nat.reduceAdd]
     refine ⟨?_, ?_, ?_, ?_, ?_, ?_, ?_, ?_, ?_, ?_, ?_, ?_, ?_, ?_, ?_, ?_, ?_, ?_, ?_, ?_, ?_, ?_, ?_, ?_, ?_, ?_, ?_, ?_, trivial⟩
     all_goals intro L vs W hI hi hn hcl K hK
     ·rw [if_pos (by simp [Region.wanted])]
      have hS := hI.st
      obtain ⟨-, hka, -, -, -⟩ := hS
      have a0 := BlockIs.of hka 0 _ rfl
      have a1 := BlockIs.of hka 1 _ rfl
      have a2 := BlockIs.of hka 2 _ rfl
      have a3 := BlockIs.of hka 3 _ rfl
      have a4 := BlockIs.of hka 4 _ rfl
      have a5 := BlockIs.of hka 5 _ rfl
      have a6 := BlockIs.of hka 6 _ rfl
      clear hka
      have HK := Lib.hid (fun (v : Value) (h : v = .agg #[.int .i64 j.task, .int .i64 j.seq, .int .i64 j.prio, .int .i64 j.release, .int .i64 j.deadline, .int .i64 j.demand, .int .i64 (j.used + 1)]) => hK v W ⟨pv_upd hI.pv h, hI.st⟩)
      clear hK hI hn hcl hi
      go_simp
      exact HK.out _ rfl
     ·rw [if_pos (by simp [Region.wanted])]
      have HK := Lib.hid (fun (v : Value) (h : v = .int .i64 1) => hK v W ⟨pv_upd hI.pv h, hI.st⟩)
      clear hK hI hn hcl hi
      go_simp
      exact HK.out _ rfl
     ·have r1 : vs 1 = _ := hI.pv 1 (hn 1 rfl)
      rw [if_pos (by simp [Region.wanted])]
      simp only [r1] at hK |-
      have HK := Lib.hid (fun (v : Value) (h : v = .bool true) => hK v W ⟨pv_upd hI.pv h, hI.st⟩)
      clear hK hI hn hcl hi
      go_simp
      exact HK.out _ rfl
     ·have r2 : vs 2 = _ := hI.pv 2 (hn 2 rfl)
      rw [if_pos (by simp [Region.wanted])]
      simp only [r2] at hK |-
      have HK := Lib.hid (fun (v : Value) (h : v = .bool true) => hK v W ⟨pv_upd hI.pv h, hI.st⟩)
      clear hK hI hn hcl hi
      go_simp
      exact HK.out _ rfl
     ·have r3 : vs 3 = _ := hI.pv 3 (hn 3 rfl)
      rw [if_pos (by simp [Region.wanted, yielded, r3])]
      simp only [r3] at hK |-
      have HK := Lib.hid (fun (v : Value) (h : v = .pointer (some ⟨ga, 6, none⟩)) => hK v W ⟨pv_upd hI.pv h, hI.st⟩)
      clear hK hI hn hcl hi
      go_simp
      exact HK.out _ rfl
     ·have r3 : vs 3 = _ := hI.pv 3 (hn 3 rfl)
      have r4 : vs 4 = _ := hI.pv 4 (hn 4 rfl)
      rw [if_pos (by simp [Region.wanted, yielded, r3])]
      have hS := hI.st
      obtain ⟨-, hka, -, -, -⟩ := hS
      have a6 := BlockIs.of hka 6 _ rfl
      clear hka
      simp only [r3, r4] at hK |-
      have HK := Lib.hid (fun (v : Value) (h : v = .int .i64 (j.used + 1)) => hK v W ⟨pv_upd hI.pv h, hI.st⟩)
      clear hK hI hn hcl hi
      go_simp
      exact HK.out _ rfl
     ·have r3 : vs 3 = _ := hI.pv 3 (hn 3 rfl)
      rw [if_pos (by simp [Region.wanted, yielded, r3])]
      simp only [r3] at hK |-
      have HK := Lib.hid (fun (v : Value) (h : v = .pointer (some ⟨gb, 3, none⟩)) => hK v W ⟨pv_upd hI.pv h, hI.st⟩)
      clear hK hI hn hcl hi
      go_simp
      exact HK.out _ rfl
     ·have r3 : vs 3 = _ := hI.pv 3 (hn 3 rfl)
      have r6 : vs 6 = _ := hI.pv 6 (hn 6 rfl)
      rw [if_pos (by simp [Region.wanted, yielded, r3])]
      have hS := hI.st
      obtain ⟨-, -, hkb, -, -⟩ := hS
      have b3 := BlockIs.of hkb 3 _ rfl
      clear hkb
      simp only [r3, r6] at hK |-
      have HK := Lib.hid (fun (v : Value) (h : v = .int .i64 t.clow) => hK v W ⟨pv_upd hI.pv h, hI.st⟩)
      clear hK hI hn hcl hi
      go_simp
      exact HK.out _ rfl
     ·have r3 : vs 3 = _ := hI.pv 3 (hn 3 rfl)
      have r5 : vs 5 = _ := hI.pv 5 (hn 5 rfl)
      have r7 : vs 7 = _ := hI.pv 7 (hn 7 rfl)
      rw [if_pos (by simp [Region.wanted, yielded, r3])]
      simp only [r3, r5, r7] at hK |-
      have HK := Lib.hid (fun (v : Value) (h : v = .bool false) => hK v W ⟨pv_upd hI.pv h, hI.st⟩)
      clear hK hI hn hcl hi
      go_simp
      exact HK.out _ rfl
     ·have r3 : vs 3 = _ := hI.pv 3 (hn 3 rfl)
      have r8 : vs 8 = _ := hI.pv 8 (hn 8 rfl)
      rw [if_pos (by simp [Region.wanted])]
      simp only [r3, r8] at hK |-
      have HK := Lib.hid (fun (v : Value) (h : v = .bool false) => hK v W ⟨pv_upd hI.pv h, hI.st⟩)
      clear hK hI hn hcl hi
      go_simp
      exact HK.out _ rfl
     ·have r9 : vs 9 = _ := hI.pv 9 (hn 9 rfl)
      rw [if_pos (by simp [Region.wanted])]
      simp only [r9] at hK |-
      have HK := Lib.hid (fun (v : Value) (h : v = .bool false) => hK v W ⟨pv_upd hI.pv h, hI.st⟩)
      clear hK hI hn hcl hi
      go_simp
      exact HK.out _ rfl
     ·have r10 : vs 10 = _ := hI.pv 10 (hn 10 rfl)
      rw [if_neg (by simp [Region.wanted, yielded, r10])]
      exact hK undef W ⟨pv_upd hI.pv rfl, hI.st⟩
     ·have r10 : vs 10 = _ := hI.pv 10 (hn 10 rfl)
      rw [if_neg (by simp [Region.wanted, yielded, r10])]
      exact hK undef W ⟨pv_upd hI.pv rfl, hI.st⟩
     ·have r10 : vs 10 = _ := hI.pv 10 (hn 10 rfl)
      have r12 : vs 12 = undef := hI.pv 12 (hn 12 rfl)
      rw [if_pos (by simp [Region.wanted])]
      simp only [r10, r12] at hK |-
      have HK := Lib.hid (fun (v : Value) (h : v = .bool false) => hK v W ⟨pv_upd hI.pv h, hI.st⟩)
      clear hK hI hn hcl hi
      go_simp
      exact HK.out _ rfl
     ·rw [if_pos (by simp [Region.wanted])]
      have HK := Lib.hid (fun (v : Value) (h : v = .bool false) => hK v W ⟨pv_upd hI.pv h, hI.st⟩)
      clear hK hI hn hcl hi
      go_simp
      exact HK.out _ rfl
     ·rw [if_pos (by simp [Region.wanted])]
      have HK := Lib.hid (fun (v : Value) (h : v = .bool false) => hK v W ⟨pv_upd hI.pv h, hI.st⟩)
      clear hK hI hn hcl hi
      go_simp
      exact HK.out _ rfl
     ·have r15 : vs 15 = _ := hI.pv 15 (hn 15 rfl)
      rw [if_pos (by simp [Region.wanted])]
      simp only [r15] at hK |-
      have HK := Lib.hid (fun (v : Value) (h : v = .bool true) => hK v W ⟨pv_upd hI.pv h, hI.st⟩)
      clear hK hI hn hcl hi
      go_simp
      exact HK.out _ rfl
     ·have r16 : vs 16 = _ := hI.pv 16 (hn 16 rfl)
      rw [if_pos (by simp [Region.wanted])]
      simp only [r16] at hK |-
      have HK := Lib.hid (fun (v : Value) (h : v = .bool true) => hK v W ⟨pv_upd hI.pv h, hI.st⟩)
      clear hK hI hn hcl hi
      go_simp
      exact HK.out _ rfl
     ·have r17 : vs 17 = _ := hI.pv 17 (hn 17 rfl)
      rw [if_pos (by simp [Region.wanted, yielded, r17])]
      simp only [r17] at hK |-
      have HK := Lib.hid (fun (v : Value) (h : v = .pointer (some ⟨ga, 6, none⟩)) => hK v W ⟨pv_upd hI.pv h, hI.st⟩)
      clear hK hI hn hcl hi
      go_simp
      exact HK.out _ rfl
     ·have r17 : vs 17 = _ := hI.pv 17 (hn 17 rfl)
      have r18 : vs 18 = _ := hI.pv 18 (hn 18 rfl)
      rw [if_pos (by simp [Region.wanted, yielded, r17])]
      have hS := hI.st
      obtain ⟨-, hka, -, -, -⟩ := hS
      have a6 := BlockIs.of hka 6 _ rfl
      clear hka
      simp only [r17, r18] at hK |-
      have HK := Lib.hid (fun (v : Value) (h : v = .int .i64 (j.used + 1)) => hK v W ⟨pv_upd hI.pv h, hI.st⟩)
      clear hK hI hn hcl hi
      go_simp
      exact HK.out _ rfl
     ·have r17 : vs 17 = _ := hI.pv 17 (hn 17 rfl)
      rw [if_pos (by simp [Region.wanted, yielded, r17])]
      simp only [r17] at hK |-
      have HK := Lib.hid (fun (v : Value) (h : v = .int .i64 1) => hK v W ⟨pv_upd hI.pv h, hI.st⟩)
      clear hK hI hn hcl hi
      go_simp
      exact HK.out _ rfl
     ·have r17 : vs 17 = _ := hI.pv 17 (hn 17 rfl)
      have r20 : vs 20 = _ := hI.pv 20 (hn 20 rfl)
      rw [if_pos (by simp [Region.wanted, yielded, r17])]
      have hS := hI.st
      obtain ⟨-, -, hkb, -, -⟩ := hS
      have b3 := BlockIs.of hkb 3 _ rfl
      have b4 := BlockIs.of hkb 4 _ rfl
      clear hkb
      simp only [r17, r20] at hK |-
      have HK := Lib.hid (fun (v : Value) (h : v = .int .i64 (limI t 1)) => hK v W ⟨pv_upd hI.pv h, hI.st⟩)
      clear hK hI hn hcl hi
      go_simp
      go_at_call 152
      refine (limit_any gb t _ W b3 b4).mono ?_
      rintro e w' ⟨rfl, hw⟩
      subst w'
      exact HK.out _ rfl
     ·have r17 : vs 17 = _ := hI.pv 17 (hn 17 rfl)
      have r19 : vs 19 = _ := hI.pv 19 (hn 19 rfl)
      have r21 : vs 21 = _ := hI.pv 21 (hn 21 rfl)
      rw [if_pos (by simp [Region.wanted, yielded, r17])]
      simp only [r17, r19, r21] at hK |-
      have HK := Lib.hid (fun (v : Value) (h : v = .bool (j.used + 1 == limI t 1)) => hK v W ⟨pv_upd hI.pv h, hI.st⟩)
      clear hK hI hn hcl hi
      go_simp
      exact HK.out _ rfl
     ·have r17 : vs 17 = _ := hI.pv 17 (hn 17 rfl)
      have r22 : vs 22 = _ := hI.pv 22 (hn 22 rfl)
      rw [if_pos (by simp [Region.wanted])]
      simp only [r17, r22] at hK |-
      have HK := Lib.hid (fun (v : Value) (h : v = .bool (j.used + 1 == limI t 1)) => hK v W ⟨pv_upd hI.pv h, hI.st⟩)
      clear hK hI hn hcl hi
      go_simp
      exact HK.out _ rfl
     ·have r13 : vs 13 = _ := hI.pv 13 (hn 13 rfl)
      have r14 : vs 14 = _ := hI.pv 14 (hn 14 rfl)
      have r23 : vs 23 = _ := hI.pv 23 (hn 23 rfl)
      rw [if_pos (by simp [Region.wanted])]
      simp only [r13, r14, r23] at hK |-
      have HK := Lib.hid (fun (v : Value) (h : v = .agg #[.bool false, .bool false, .bool (j.used + 1 == limI t 1)]) => hK v W ⟨pv_upd hI.pv h, hI.st⟩)
      clear hK hI hn hcl hi
      go_simp
      exact HK.out _ rfl
     ·have r0 : vs 0 = _ := hI.pv 0 (hn 0 rfl)
      rw [if_pos (by simp [Region.wanted])]
      simp only [r0] at hK |-
      obtain ⟨hb, hka, hkb, hkc, hkd⟩ := hI.st
      rw [hi] at hkc
      simp only [Bool.false_eq_true, if_false] at hkc
      obtain ⟨wz, hw_wz⟩ : ∃ wz, wz = put7 W gc (.int .i64 j.task) (.int .i64 j.seq) (.int .i64 j.prio) (.int .i64 j.release) (.int .i64 j.deadline) (.int .i64 j.demand) (.int .i64 (j.used + 1)) := ⟨_, rfl⟩
      have hk_z := put7_at hkc (.int .i64 j.task) (.int .i64 j.seq) (.int .i64 j.prio) (.int .i64 j.release) (.int .i64 j.deadline) (.int .i64 j.demand) (.int .i64 (j.used + 1))
      have hg_z := put7_grown W gc (.int .i64 j.task) (.int .i64 j.seq) (.int .i64 j.prio) (.int .i64 j.release) (.int .i64 j.deadline) (.int .i64 j.demand) (.int .i64 (j.used + 1))
      rw [<- hw_wz] at hk_z hg_z
      unfold put7 at hw_wz
      have o0 := BlockIs.of hkc 0 _ rfl
      have o1 := BlockIs.of hkc 1 _ rfl
      have o2 := BlockIs.of hkc 2 _ rfl
      have o3 := BlockIs.of hkc 3 _ rfl
      have o4 := BlockIs.of hkc 4 _ rfl
      have o5 := BlockIs.of hkc 5 _ rfl
      have o6 := BlockIs.of hkc 6 _ rfl
      have fz := thaw hkc
      have HN := Lib.hid (show WInv (Ch100V ga gb j t) (fun L W => ChT w ga gb gc gd j t (#[.bool false, .bool false, .bool (j.used + 1 == limI t 1)]) (L 25) (L 26) W) (updB L 25) (upd vs 25 undef) wz from ⟨pv_upd hI.pv trivial, ⟨bput hb hg_z HGS.out.2.1 (Nat.le_refl _), ((hg_z.block _ (lt_of_block hka) (fun q => by injection q with q; have := HGS.out; omega)).trans hka), ((hg_z.block _ (lt_of_block hkb) (fun q => by injection q with q; have := HGS.out; omega)).trans hkb), hk_z, ((hg_z.block _ (lt_of_block hkd) (fun q => by injection q with q; have := HGS.out; omega)).trans hkd)⟩⟩)
      have HK := Lib.hid hK
      clear hK hI hn hcl hi hb hka hkb hkc hkd hk_z hg_z
      go_simp
      rw [<- hw_wz]
      exact HK.out _ _ HN.out
     ·have r24 : vs 24 = _ := hI.pv 24 (hn 24 rfl)
      rw [if_pos (by simp [Region.wanted])]
      simp only [r24] at hK |-
      obtain ⟨hb, hka, hkb, hkc, hkd⟩ := hI.st
      rw [hi] at hkd
      simp only [Bool.false_eq_true, if_false] at hkd
      obtain ⟨wz, hw_wz⟩ : ∃ wz, wz = put3 W gd (.bool false) (.bool false) (.bool (j.used + 1 == limI t 1)) := ⟨_, rfl⟩
      have hk_z := put3_at hkd (.bool false) (.bool false) (.bool (j.used + 1 == limI t 1))
      have hg_z := put3_grown W gd (.bool false) (.bool false) (.bool (j.used + 1 == limI t 1))
      rw [<- hw_wz] at hk_z hg_z
      unfold put3 at hw_wz
      have o0 := BlockIs.of hkd 0 _ rfl
      have o1 := BlockIs.of hkd 1 _ rfl
      have o2 := BlockIs.of hkd 2 _ rfl
      have fz := thaw hkd
      have HN := Lib.hid (show WInv (Ch100V ga gb j t) (fun L W => ChT w ga gb gc gd j t (#[.bool false, .bool false, .bool (j.used + 1 == limI t 1)]) (L 25) (L 26) W) (updB L 26) (upd vs 26 undef) wz from ⟨pv_upd hI.pv trivial, ⟨bput hb hg_z HGS.out.2.2.1 (Nat.le_refl _), ((hg_z.block _ (lt_of_block hka) (fun q => by injection q with q; have := HGS.out; omega)).trans hka), ((hg_z.block _ (lt_of_block hkb) (fun q => by injection q with q; have := HGS.out; omega)).trans hkb), ((hg_z.block _ (lt_of_block hkc) (fun q => by injection q with q; have := HGS.out; omega)).trans hkc), hk_z⟩⟩)
      have HK := Lib.hid hK
      clear hK hI hn hcl hi hb hka hkb hkc hkd hk_z hg_z
      go_simp
      rw [<- hw_wz]
      exact HK.out _ _ HN.out
     ·rw [if_pos (by simp [Region.wanted])]
      have HK := Lib.hid (fun (v : Value) (h : v = .int .i64 0) => hK v W ⟨pv_upd hI.pv h, hI.st⟩)
      clear hK hI hn hcl hi
      go_simp
      exact HK.out _ rfl
    ·intro vs W hI
     simp only [List.map, putAll, Act.put, List.setIfInBounds_toArray, List.set_cons_succ, List.set_cons_zero, Nat.reduceAdd]
     have hS := hI.st
     have r0 : vs 0 = _ := hI.pv 0 (by simp)
     have r1 : vs 1 = _ := hI.pv 1 (by simp)
     have r2 : vs 2 = _ := hI.pv 2 (by simp)
     have r3 : vs 3 = _ := hI.pv 3 (by simp)
     have r4 : vs 4 = _ := hI.pv 4 (by simp)
     have r5 : vs 5 = _ := hI.pv 5 (by simp)
     have r6 : vs 6 = _ := hI.pv 6 (by simp)
     have r7 : vs 7 = _ := hI.pv 7 (by simp)
     have r8 : vs 8 = _ := hI.pv 8 (by simp)
     have r9 : vs 9 = _ := hI.pv 9 (by simp)
     have r10 : vs 10 = _ := hI.pv 10 (by simp)
     have r11 : vs 11 = undef := hI.pv 11 (by simp)
     have r12 : vs 12 = undef := hI.pv 12 (by simp)
     have r13 : vs 13 = _ := hI.pv 13 (by simp)
     have r14 : vs 14 = _ := hI.pv 14 (by simp)
     have r15 : vs 15 = _ := hI.pv 15 (by simp)
     have r16 : vs 16 = _ := hI.pv 16 (by simp)
     have r17 : vs 17 = _ := hI.pv 17 (by simp)
     have r18 : vs 18 = _ := hI.pv 18 (by simp)
     have r19 : vs 19 = _ := hI.pv 19 (by simp)
     have r20 : vs 20 = _ := hI.pv 20 (by simp)
     have r21 : vs 21 = _ := hI.pv 21 (by simp)
     have r22 : vs 22 = _ := hI.pv 22 (by simp)
     have r23 : vs 23 = _ := hI.pv 23 (by simp)
     have r24 : vs 24 = _ := hI.pv 24 (by simp)
     have r27 : vs 27 = _ := hI.pv 27 (by simp)
     simp only [r0, r1, r2, r3, r4, r5, r6, r7, r8, r9, r10, r11, r12, r13, r14, r15, r16, r17, r18, r19, r20, r21, r22, r23, r24, r27]
     clear hI r0 r1 r2 r3 r4 r5 r6 r7 r8 r9 r10 r11 r12 r13 r14 r15 r16 r17 r18 r19 r20 r21 r22 r23 r24 r27
     obtain ⟨hb, -, -, hkc, hkd⟩ := hS
     have c0 := BlockIs.of hkc 0 _ rfl
     have c1 := BlockIs.of hkc 1 _ rfl
     have c2 := BlockIs.of hkc 2 _ rfl
     have c3 := BlockIs.of hkc 3 _ rfl
     have c4 := BlockIs.of hkc 4 _ rfl
     have c5 := BlockIs.of hkc 5 _ rfl
     have c6 := BlockIs.of hkc 6 _ rfl
     have d0 := BlockIs.of hkd 0 _ rfl
     have d1 := BlockIs.of hkd 1 _ rfl
     have d2 := BlockIs.of hkd 2 _ rfl
     have HBW := Lib.hid hb
     clear hb hkc hkd
     go_wp2_with fail
     refine bodyPost_ret (v := .tuple #[jobV (chJ j), .agg #[.bool false, .bool false, .bool (j.used + 1 == limI t 1)], .int .i64 0]) (by simp [results, Tryz.results143, go_sem, c0, c1, c2, c3, c4, c5, c6, d0, d1, d2, jobV, chJ]) rfl ⟨by rw [HV.out]; rfl, HBW.out⟩
   ·go_wp2_with (rw [<- hw3]; clear hw3 a5 a6 fa)
    clear n5 n6
    have HS0 := Lib.hid (show ChT w ga gb gc gd j t #[.bool true, .bool false, .bool (j.used + 1 == limI t 1)] false false (w3.drew) from ⟨below_drew HB3.out, HKA3.out, HKB3.out, HKC3.out, HKD3.out⟩)
    refine region_inv0 rfl (by kernel_rfl) (WInv (Ch110V ga gb j t) (fun L W => ChT w ga gb gc gd j t (#[.bool true, .bool false, .bool (j.used + 1 == limI t 1)]) (L 25) (L 26) W)) (fun vs h0 => ⟨(fun i h => by cases h), HS0.out⟩) ?_ ?_
    ·simp (config := { maxSteps := 4000000 }) only [List.map, putAll, Act.put, InvE, List.setIfInBounds_toArray, List.set_cons_succ, List.set_cons_zero, Nat.reduceAdd]
     refine ⟨?_, ?_, ?_, ?_, ?_, ?_, ?_, ?_, ?_, ?_, ?_, ?_, ?_, ?_, ?_, ?_, ?_, ?_, ?_, ?_, ?_, ?_, ?_, ?_, ?_, ?_, ?_, ?_, trivial⟩
     all_goals intro L vs W hI hi hn hcl K hK
     ·rw [if_pos (by simp [Region.wanted])]
      have hS := hI.st
      obtain ⟨-, hka, -, -, -⟩ := hS
      have a0 := BlockIs.of hka 0 _ rfl
      have a1 := BlockIs.of hka 1 _ rfl
      have a2 := BlockIs.of hka 2 _ rfl
      have a3 := BlockIs.of hka 3 _ rfl
      have a4 := BlockIs.of hka 4 _ rfl
      have a5 := BlockIs.of hka 5 _ rfl
      have a6 := BlockIs.of hka 6 _ rfl
      clear hka
      have HK := Lib.hid (fun (v : Value) (h : v = .agg #[.int .i64 j.task, .int .i64 j.seq, .int .i64 j.prio, .int .i64 j.release, .int .i64 j.deadline, .int .i64 j.demand, .int .i64 (j.used + 1)]) => hK v W ⟨pv_upd hI.pv h, hI.st⟩)
      clear hK hI hn hcl hi
      go_simp
      exact HK.out _ rfl
     ·rw [if_pos (by simp [Region.wanted])]
      have HK := Lib.hid (fun (v : Value) (h : v = .int .i64 1) => hK v W ⟨pv_upd hI.pv h, hI.st⟩)
      clear hK hI hn hcl hi
      go_simp
      exact HK.out _ rfl
     ·have r1 : vs 1 = _ := hI.pv 1 (hn 1 rfl)
      rw [if_pos (by simp [Region.wanted])]
      simp only [r1] at hK |-
      have HK := Lib.hid (fun (v : Value) (h : v = .bool true) => hK v W ⟨pv_upd hI.pv h, hI.st⟩)
      clear hK hI hn hcl hi
      go_simp
      exact HK.out _ rfl
     ·have r2 : vs 2 = _ := hI.pv 2 (hn 2 rfl)
      rw [if_pos (by simp [Region.wanted])]
      simp only [r2] at hK |-
      have HK := Lib.hid (fun (v : Value) (h : v = .bool true) => hK v W ⟨pv_upd hI.pv h, hI.st⟩)
      clear hK hI hn hcl hi
      go_simp
      exact HK.out _ rfl
     ·have r3 : vs 3 = _ := hI.pv 3 (hn 3 rfl)
      rw [if_pos (by simp [Region.wanted, yielded, r3])]
      simp only [r3] at hK |-
      have HK := Lib.hid (fun (v : Value) (h : v = .pointer (some ⟨ga, 6, none⟩)) => hK v W ⟨pv_upd hI.pv h, hI.st⟩)
      clear hK hI hn hcl hi
      go_simp
      exact HK.out _ rfl
     ·have r3 : vs 3 = _ := hI.pv 3 (hn 3 rfl)
      have r4 : vs 4 = _ := hI.pv 4 (hn 4 rfl)
      rw [if_pos (by simp [Region.wanted, yielded, r3])]
      have hS := hI.st
      obtain ⟨-, hka, -, -, -⟩ := hS
      have a6 := BlockIs.of hka 6 _ rfl
      clear hka
      simp only [r3, r4] at hK |-
      have HK := Lib.hid (fun (v : Value) (h : v = .int .i64 (j.used + 1)) => hK v W ⟨pv_upd hI.pv h, hI.st⟩)
      clear hK hI hn hcl hi
      go_simp
      exact HK.out _ rfl
     ·have r3 : vs 3 = _ := hI.pv 3 (hn 3 rfl)
      rw [if_pos (by simp [Region.wanted, yielded, r3])]
      simp only [r3] at hK |-
      have HK := Lib.hid (fun (v : Value) (h : v = .pointer (some ⟨gb, 3, none⟩)) => hK v W ⟨pv_upd hI.pv h, hI.st⟩)
      clear hK hI hn hcl hi
      go_simp
      exact HK.out _ rfl
     ·have r3 : vs 3 = _ := hI.pv 3 (hn 3 rfl)
      have r6 : vs 6 = _ := hI.pv 6 (hn 6 rfl)
      rw [if_pos (by simp [Region.wanted, yielded, r3])]
      have hS := hI.st
      obtain ⟨-, -, hkb, -, -⟩ := hS
      have b3 := BlockIs.of hkb 3 _ rfl
      clear hkb
      simp only [r3, r6] at hK |-
      have HK := Lib.hid (fun (v : Value) (h : v = .int .i64 t.clow) => hK v W ⟨pv_upd hI.pv h, hI.st⟩)
      clear hK hI hn hcl hi
      go_simp
      exact HK.out _ rfl
     ·have r3 : vs 3 = _ := hI.pv 3 (hn 3 rfl)
      have r5 : vs 5 = _ := hI.pv 5 (hn 5 rfl)
      have r7 : vs 7 = _ := hI.pv 7 (hn 7 rfl)
      rw [if_pos (by simp [Region.wanted, yielded, r3])]
      simp only [r3, r5, r7] at hK |-
      have HK := Lib.hid (fun (v : Value) (h : v = .bool true) => hK v W ⟨pv_upd hI.pv h, hI.st⟩)
      clear hK hI hn hcl hi
      go_simp
      exact HK.out _ rfl
     ·have r3 : vs 3 = _ := hI.pv 3 (hn 3 rfl)
      have r8 : vs 8 = _ := hI.pv 8 (hn 8 rfl)
      rw [if_pos (by simp [Region.wanted])]
      simp only [r3, r8] at hK |-
      have HK := Lib.hid (fun (v : Value) (h : v = .bool true) => hK v W ⟨pv_upd hI.pv h, hI.st⟩)
      clear hK hI hn hcl hi
      go_simp
      exact HK.out _ rfl
     ·have r9 : vs 9 = _ := hI.pv 9 (hn 9 rfl)
      rw [if_pos (by simp [Region.wanted])]
      simp only [r9] at hK |-
      have HK := Lib.hid (fun (v : Value) (h : v = .bool true) => hK v W ⟨pv_upd hI.pv h, hI.st⟩)
      clear hK hI hn hcl hi
      go_simp
      exact HK.out _ rfl
     ·have r10 : vs 10 = _ := hI.pv 10 (hn 10 rfl)
      rw [if_pos (by simp [Region.wanted, yielded, r10])]
      simp only [r10] at hK |-
      have HK := Lib.hid (fun (v : Value) (h : v = .bool false) => hK v W ⟨pv_upd hI.pv h, hI.st⟩)
      clear hK hI hn hcl hi
      go_simp
      exact HK.out _ rfl
     ·have r10 : vs 10 = _ := hI.pv 10 (hn 10 rfl)
      have r11 : vs 11 = _ := hI.pv 11 (hn 11 rfl)
      rw [if_pos (by simp [Region.wanted, yielded, r10])]
      simp only [r10, r11] at hK |-
      have HK := Lib.hid (fun (v : Value) (h : v = .bool true) => hK v W ⟨pv_upd hI.pv h, hI.st⟩)
      clear hK hI hn hcl hi
      go_simp
      exact HK.out _ rfl
     ·have r10 : vs 10 = _ := hI.pv 10 (hn 10 rfl)
      have r12 : vs 12 = _ := hI.pv 12 (hn 12 rfl)
      rw [if_pos (by simp [Region.wanted])]
      simp only [r10, r12] at hK |-
      have HK := Lib.hid (fun (v : Value) (h : v = .bool true) => hK v W ⟨pv_upd hI.pv h, hI.st⟩)
      clear hK hI hn hcl hi
      go_simp
      exact HK.out _ rfl
     ·rw [if_pos (by simp [Region.wanted])]
      have HK := Lib.hid (fun (v : Value) (h : v = .bool false) => hK v W ⟨pv_upd hI.pv h, hI.st⟩)
      clear hK hI hn hcl hi
      go_simp
      exact HK.out _ rfl
     ·rw [if_pos (by simp [Region.wanted])]
      have HK := Lib.hid (fun (v : Value) (h : v = .bool false) => hK v W ⟨pv_upd hI.pv h, hI.st⟩)
      clear hK hI hn hcl hi
      go_simp
      exact HK.out _ rfl
     ·have r15 : vs 15 = _ := hI.pv 15 (hn 15 rfl)
      rw [if_pos (by simp [Region.wanted])]
      simp only [r15] at hK |-
      have HK := Lib.hid (fun (v : Value) (h : v = .bool true) => hK v W ⟨pv_upd hI.pv h, hI.st⟩)
      clear hK hI hn hcl hi
      go_simp
      exact HK.out _ rfl
     ·have r16 : vs 16 = _ := hI.pv 16 (hn 16 rfl)
      rw [if_pos (by simp [Region.wanted])]
      simp only [r16] at hK |-
      have HK := Lib.hid (fun (v : Value) (h : v = .bool true) => hK v W ⟨pv_upd hI.pv h, hI.st⟩)
      clear hK hI hn hcl hi
      go_simp
      exact HK.out _ rfl
     ·have r17 : vs 17 = _ := hI.pv 17 (hn 17 rfl)
      rw [if_pos (by simp [Region.wanted, yielded, r17])]
      simp only [r17] at hK |-
      have HK := Lib.hid (fun (v : Value) (h : v = .pointer (some ⟨ga, 6, none⟩)) => hK v W ⟨pv_upd hI.pv h, hI.st⟩)
      clear hK hI hn hcl hi
      go_simp
      exact HK.out _ rfl
     ·have r17 : vs 17 = _ := hI.pv 17 (hn 17 rfl)
      have r18 : vs 18 = _ := hI.pv 18 (hn 18 rfl)
      rw [if_pos (by simp [Region.wanted, yielded, r17])]
      have hS := hI.st
      obtain ⟨-, hka, -, -, -⟩ := hS
      have a6 := BlockIs.of hka 6 _ rfl
      clear hka
      simp only [r17, r18] at hK |-
      have HK := Lib.hid (fun (v : Value) (h : v = .int .i64 (j.used + 1)) => hK v W ⟨pv_upd hI.pv h, hI.st⟩)
      clear hK hI hn hcl hi
      go_simp
      exact HK.out _ rfl
     ·have r17 : vs 17 = _ := hI.pv 17 (hn 17 rfl)
      rw [if_pos (by simp [Region.wanted, yielded, r17])]
      simp only [r17] at hK |-
      have HK := Lib.hid (fun (v : Value) (h : v = .int .i64 1) => hK v W ⟨pv_upd hI.pv h, hI.st⟩)
      clear hK hI hn hcl hi
      go_simp
      exact HK.out _ rfl
     ·have r17 : vs 17 = _ := hI.pv 17 (hn 17 rfl)
      have r20 : vs 20 = _ := hI.pv 20 (hn 20 rfl)
      rw [if_pos (by simp [Region.wanted, yielded, r17])]
      have hS := hI.st
      obtain ⟨-, -, hkb, -, -⟩ := hS
      have b3 := BlockIs.of hkb 3 _ rfl
      have b4 := BlockIs.of hkb 4 _ rfl
      clear hkb
      simp only [r17, r20] at hK |-
      have HK := Lib.hid (fun (v : Value) (h : v = .int .i64 (limI t 1)) => hK v W ⟨pv_upd hI.pv h, hI.st⟩)
      clear hK hI hn hcl hi
      go_simp
      go_at_call 152
      refine (limit_any gb t _ W b3 b4).mono ?_
      rintro e w' ⟨rfl, hw⟩
      subst w'
      exact HK.out _ rfl
     ·have r17 : vs 17 = _ := hI.pv 17 (hn 17 rfl)
      have r19 : vs 19 = _ := hI.pv 19 (hn 19 rfl)
      have r21 : vs 21 = _ := hI.pv 21 (hn 21 rfl)
      rw [if_pos (by simp [Region.wanted, yielded, r17])]
      simp only [r17, r19, r21] at hK |-
      have HK := Lib.hid (fun (v : Value) (h : v = .bool (j.used + 1 == limI t 1)) => hK v W ⟨pv_upd hI.pv h, hI.st⟩)
      clear hK hI hn hcl hi
      go_simp
      exact HK.out _ rfl
     ·have r17 : vs 17 = _ := hI.pv 17 (hn 17 rfl)
      have r22 : vs 22 = _ := hI.pv 22 (hn 22 rfl)
      rw [if_pos (by simp [Region.wanted])]
      simp only [r17, r22] at hK |-
      have HK := Lib.hid (fun (v : Value) (h : v = .bool (j.used + 1 == limI t 1)) => hK v W ⟨pv_upd hI.pv h, hI.st⟩)
      clear hK hI hn hcl hi
      go_simp
      exact HK.out _ rfl
     ·have r13 : vs 13 = _ := hI.pv 13 (hn 13 rfl)
      have r14 : vs 14 = _ := hI.pv 14 (hn 14 rfl)
      have r23 : vs 23 = _ := hI.pv 23 (hn 23 rfl)
      rw [if_pos (by simp [Region.wanted])]
      simp only [r13, r14, r23] at hK |-
      have HK := Lib.hid (fun (v : Value) (h : v = .agg #[.bool true, .bool false, .bool (j.used + 1 == limI t 1)]) => hK v W ⟨pv_upd hI.pv h, hI.st⟩)
      clear hK hI hn hcl hi
      go_simp
      exact HK.out _ rfl
     ·have r0 : vs 0 = _ := hI.pv 0 (hn 0 rfl)
      rw [if_pos (by simp [Region.wanted])]
      simp only [r0] at hK |-
      obtain ⟨hb, hka, hkb, hkc, hkd⟩ := hI.st
      rw [hi] at hkc
      simp only [Bool.false_eq_true, if_false] at hkc
      obtain ⟨wz, hw_wz⟩ : ∃ wz, wz = put7 W gc (.int .i64 j.task) (.int .i64 j.seq) (.int .i64 j.prio) (.int .i64 j.release) (.int .i64 j.deadline) (.int .i64 j.demand) (.int .i64 (j.used + 1)) := ⟨_, rfl⟩
      have hk_z := put7_at hkc (.int .i64 j.task) (.int .i64 j.seq) (.int .i64 j.prio) (.int .i64 j.release) (.int .i64 j.deadline) (.int .i64 j.demand) (.int .i64 (j.used + 1))
      have hg_z := put7_grown W gc (.int .i64 j.task) (.int .i64 j.seq) (.int .i64 j.prio) (.int .i64 j.release) (.int .i64 j.deadline) (.int .i64 j.demand) (.int .i64 (j.used + 1))
      rw [<- hw_wz] at hk_z hg_z
      unfold put7 at hw_wz
      have o0 := BlockIs.of hkc 0 _ rfl
      have o1 := BlockIs.of hkc 1 _ rfl
      have o2 := BlockIs.of hkc 2 _ rfl
      have o3 := BlockIs.of hkc 3 _ rfl
      have o4 := BlockIs.of hkc 4 _ rfl
      have o5 := BlockIs.of hkc 5 _ rfl
      have o6 := BlockIs.of hkc 6 _ rfl
      have fz := thaw hkc
      have HN := Lib.hid (show WInv (Ch110V ga gb j t) (fun L W => ChT w ga gb gc gd j t (#[.bool true, .bool false, .bool (j.used + 1 == limI t 1)]) (L 25) (L 26) W) (updB L 25) (upd vs 25 undef) wz from ⟨pv_upd hI.pv trivial, ⟨bput hb hg_z HGS.out.2.1 (Nat.le_refl _), ((hg_z.block _ (lt_of_block hka) (fun q => by injection q with q; have := HGS.out; omega)).trans hka), ((hg_z.block _ (lt_of_block hkb) (fun q => by injection q with q; have := HGS.out; omega)).trans hkb), hk_z, ((hg_z.block _ (lt_of_block hkd) (fun q => by injection q with q; have := HGS.out; omega)).trans hkd)⟩⟩)
      have HK := Lib.hid hK
      clear hK hI hn hcl hi hb hka hkb hkc hkd hk_z hg_z
      go_simp
      rw [<- hw_wz]
      exact HK.out _ _ HN.out
     ·have r24 : vs 24 = _ := hI.pv 24 (hn 24 rfl)
      rw [if_pos (by simp [Region.wanted])]
      simp only [r24] at hK |-
      obtain ⟨hb, hka, hkb, hkc, hkd⟩ := hI.st
      rw [hi] at hkd
      simp only [Bool.false_eq_true, if_false] at hkd
      obtain ⟨wz, hw_wz⟩ : ∃ wz, wz = put3 W gd (.bool true) (.bool false) (.bool (j.used + 1 == limI t 1)) := ⟨_, rfl⟩
      have hk_z := put3_at hkd (.bool true) (.bool false) (.bool (j.used + 1 == limI t 1))
      have hg_z := put3_grown W gd (.bool true) (.bool false) (.bool (j.used + 1 == limI t 1))
      rw [<- hw_wz] at hk_z hg_z
      unfold put3 at hw_wz
      have o0 := BlockIs.of hkd 0 _ rfl
      have o1 := BlockIs.of hkd 1 _ rfl
      have o2 := BlockIs.of hkd 2 _ rfl
      have fz := thaw hkd
      have HN := Lib.hid (show WInv (Ch110V ga gb j t) (fun L W => ChT w ga gb gc gd j t (#[.bool true, .bool false, .bool (j.used + 1 == limI t 1)]) (L 25) (L 26) W) (updB L 26) (upd vs 26 undef) wz from ⟨pv_upd hI.pv trivial, ⟨bput hb hg_z HGS.out.2.2.1 (Nat.le_refl _), ((hg_z.block _ (lt_of_block hka) (fun q => by injection q with q; have := HGS.out; omega)).trans hka), ((hg_z.block _ (lt_of_block hkb) (fun q => by injection q with q; have := HGS.out; omega)).trans hkb), ((hg_z.block _ (lt_of_block hkc) (fun q => by injection q with q; have := HGS.out; omega)).trans hkc), hk_z⟩⟩)
      have HK := Lib.hid hK
      clear hK hI hn hcl hi hb hka hkb hkc hkd hk_z hg_z
      go_simp
      rw [<- hw_wz]
      exact HK.out _ _ HN.out
     ·rw [if_pos (by simp [Region.wanted])]
      have HK := Lib.hid (fun (v : Value) (h : v = .int .i64 0) => hK v W ⟨pv_upd hI.pv h, hI.st⟩)
      clear hK hI hn hcl hi
      go_simp
      exact HK.out _ rfl
    ·intro vs W hI
     simp only [List.map, putAll, Act.put, List.setIfInBounds_toArray, List.set_cons_succ, List.set_cons_zero, Nat.reduceAdd]
     have hS := hI.st
     have r0 : vs 0 = _ := hI.pv 0 (by simp)
     have r1 : vs 1 = _ := hI.pv 1 (by simp)
     have r2 : vs 2 = _ := hI.pv 2 (by simp)
     have r3 : vs 3 = _ := hI.pv 3 (by simp)
     have r4 : vs 4 = _ := hI.pv 4 (by simp)
     have r5 : vs 5 = _ := hI.pv 5 (by simp)
     have r6 : vs 6 = _ := hI.pv 6 (by simp)
     have r7 : vs 7 = _ := hI.pv 7 (by simp)
     have r8 : vs 8 = _ := hI.pv 8 (by simp)
     have r9 : vs 9 = _ := hI.pv 9 (by simp)
     have r10 : vs 10 = _ := hI.pv 10 (by simp)
     have r11 : vs 11 = _ := hI.pv 11 (by simp)
     have r12 : vs 12 = _ := hI.pv 12 (by simp)
     have r13 : vs 13 = _ := hI.pv 13 (by simp)
     have r14 : vs 14 = _ := hI.pv 14 (by simp)
     have r15 : vs 15 = _ := hI.pv 15 (by simp)
     have r16 : vs 16 = _ := hI.pv 16 (by simp)
     have r17 : vs 17 = _ := hI.pv 17 (by simp)
     have r18 : vs 18 = _ := hI.pv 18 (by simp)
     have r19 : vs 19 = _ := hI.pv 19 (by simp)
     have r20 : vs 20 = _ := hI.pv 20 (by simp)
     have r21 : vs 21 = _ := hI.pv 21 (by simp)
     have r22 : vs 22 = _ := hI.pv 22 (by simp)
     have r23 : vs 23 = _ := hI.pv 23 (by simp)
     have r24 : vs 24 = _ := hI.pv 24 (by simp)
     have r27 : vs 27 = _ := hI.pv 27 (by simp)
     simp only [r0, r1, r2, r3, r4, r5, r6, r7, r8, r9, r10, r11, r12, r13, r14, r15, r16, r17, r18, r19, r20, r21, r22, r23, r24, r27]
     clear hI r0 r1 r2 r3 r4 r5 r6 r7 r8 r9 r10 r11 r12 r13 r14 r15 r16 r17 r18 r19 r20 r21 r22 r23 r24 r27
     obtain ⟨hb, -, -, hkc, hkd⟩ := hS
     have c0 := BlockIs.of hkc 0 _ rfl
     have c1 := BlockIs.of hkc 1 _ rfl
     have c2 := BlockIs.of hkc 2 _ rfl
     have c3 := BlockIs.of hkc 3 _ rfl
     have c4 := BlockIs.of hkc 4 _ rfl
     have c5 := BlockIs.of hkc 5 _ rfl
     have c6 := BlockIs.of hkc 6 _ rfl
     have d0 := BlockIs.of hkd 0 _ rfl
     have d1 := BlockIs.of hkd 1 _ rfl
     have d2 := BlockIs.of hkd 2 _ rfl
     have HBW := Lib.hid hb
     clear hb hkc hkd
     go_wp2_with fail
     refine bodyPost_ret (v := .tuple #[jobV (chJ j), .agg #[.bool true, .bool false, .bool (j.used + 1 == limI t 1)], .int .i64 0]) (by simp [results, Tryz.results143, go_sem, c0, c1, c2, c3, c4, c5, c6, d0, d1, d2, jobV, chJ]) rfl ⟨by rw [HV.out]; rfl, HBW.out⟩
  ·cases bc
   ·go_wp2_with (rw [<- hw3]; clear hw3 a5 a6 fa)
    clear n5 n6
    have HS0 := Lib.hid (show ChT w ga gb gc gd j t #[.bool false, .bool true, .bool false] false false (w3.drew) from ⟨below_drew HB3.out, HKA3.out, HKB3.out, HKC3.out, HKD3.out⟩)
    refine region_inv0 rfl (by kernel_rfl) (WInv (Ch101V ga gb j t) (fun L W => ChT w ga gb gc gd j t (#[.bool false, .bool true, .bool false]) (L 25) (L 26) W)) (fun vs h0 => ⟨(fun i h => by cases h), HS0.out⟩) ?_ ?_
    ·simp (config := { maxSteps := 4000000 }) only [List.map, putAll, Act.put, InvE, List.setIfInBounds_toArray, List.set_cons_succ, List.set_cons_zero, Nat.reduceAdd]
     refine ⟨?_, ?_, ?_, ?_, ?_, ?_, ?_, ?_, ?_, ?_, ?_, ?_, ?_, ?_, ?_, ?_, ?_, ?_, ?_, ?_, ?_, ?_, ?_, ?_, ?_, ?_, ?_, ?_, trivial⟩
     all_goals intro L vs W hI hi hn hcl K hK
     ·rw [if_pos (by simp [Region.wanted])]
      have hS := hI.st
      obtain ⟨-, hka, -, -, -⟩ := hS
      have a0 := BlockIs.of hka 0 _ rfl
      have a1 := BlockIs.of hka 1 _ rfl
      have a2 := BlockIs.of hka 2 _ rfl
      have a3 := BlockIs.of hka 3 _ rfl
      have a4 := BlockIs.of hka 4 _ rfl
      have a5 := BlockIs.of hka 5 _ rfl
      have a6 := BlockIs.of hka 6 _ rfl
      clear hka
      have HK := Lib.hid (fun (v : Value) (h : v = .agg #[.int .i64 j.task, .int .i64 j.seq, .int .i64 j.prio, .int .i64 j.release, .int .i64 j.deadline, .int .i64 j.demand, .int .i64 (j.used + 1)]) => hK v W ⟨pv_upd hI.pv h, hI.st⟩)
      clear hK hI hn hcl hi
      go_simp
      exact HK.out _ rfl
     ·rw [if_pos (by simp [Region.wanted])]
      have HK := Lib.hid (fun (v : Value) (h : v = .int .i64 1) => hK v W ⟨pv_upd hI.pv h, hI.st⟩)
      clear hK hI hn hcl hi
      go_simp
      exact HK.out _ rfl
     ·have r1 : vs 1 = _ := hI.pv 1 (hn 1 rfl)
      rw [if_pos (by simp [Region.wanted])]
      simp only [r1] at hK |-
      have HK := Lib.hid (fun (v : Value) (h : v = .bool true) => hK v W ⟨pv_upd hI.pv h, hI.st⟩)
      clear hK hI hn hcl hi
      go_simp
      exact HK.out _ rfl
     ·have r2 : vs 2 = _ := hI.pv 2 (hn 2 rfl)
      rw [if_pos (by simp [Region.wanted])]
      simp only [r2] at hK |-
      have HK := Lib.hid (fun (v : Value) (h : v = .bool true) => hK v W ⟨pv_upd hI.pv h, hI.st⟩)
      clear hK hI hn hcl hi
      go_simp
      exact HK.out _ rfl
     ·have r3 : vs 3 = _ := hI.pv 3 (hn 3 rfl)
      rw [if_pos (by simp [Region.wanted, yielded, r3])]
      simp only [r3] at hK |-
      have HK := Lib.hid (fun (v : Value) (h : v = .pointer (some ⟨ga, 6, none⟩)) => hK v W ⟨pv_upd hI.pv h, hI.st⟩)
      clear hK hI hn hcl hi
      go_simp
      exact HK.out _ rfl
     ·have r3 : vs 3 = _ := hI.pv 3 (hn 3 rfl)
      have r4 : vs 4 = _ := hI.pv 4 (hn 4 rfl)
      rw [if_pos (by simp [Region.wanted, yielded, r3])]
      have hS := hI.st
      obtain ⟨-, hka, -, -, -⟩ := hS
      have a6 := BlockIs.of hka 6 _ rfl
      clear hka
      simp only [r3, r4] at hK |-
      have HK := Lib.hid (fun (v : Value) (h : v = .int .i64 (j.used + 1)) => hK v W ⟨pv_upd hI.pv h, hI.st⟩)
      clear hK hI hn hcl hi
      go_simp
      exact HK.out _ rfl
     ·have r3 : vs 3 = _ := hI.pv 3 (hn 3 rfl)
      rw [if_pos (by simp [Region.wanted, yielded, r3])]
      simp only [r3] at hK |-
      have HK := Lib.hid (fun (v : Value) (h : v = .pointer (some ⟨gb, 3, none⟩)) => hK v W ⟨pv_upd hI.pv h, hI.st⟩)
      clear hK hI hn hcl hi
      go_simp
      exact HK.out _ rfl
     ·have r3 : vs 3 = _ := hI.pv 3 (hn 3 rfl)
      have r6 : vs 6 = _ := hI.pv 6 (hn 6 rfl)
      rw [if_pos (by simp [Region.wanted, yielded, r3])]
      have hS := hI.st
      obtain ⟨-, -, hkb, -, -⟩ := hS
      have b3 := BlockIs.of hkb 3 _ rfl
      clear hkb
      simp only [r3, r6] at hK |-
      have HK := Lib.hid (fun (v : Value) (h : v = .int .i64 t.clow) => hK v W ⟨pv_upd hI.pv h, hI.st⟩)
      clear hK hI hn hcl hi
      go_simp
      exact HK.out _ rfl
     ·have r3 : vs 3 = _ := hI.pv 3 (hn 3 rfl)
      have r5 : vs 5 = _ := hI.pv 5 (hn 5 rfl)
      have r7 : vs 7 = _ := hI.pv 7 (hn 7 rfl)
      rw [if_pos (by simp [Region.wanted, yielded, r3])]
      simp only [r3, r5, r7] at hK |-
      have HK := Lib.hid (fun (v : Value) (h : v = .bool false) => hK v W ⟨pv_upd hI.pv h, hI.st⟩)
      clear hK hI hn hcl hi
      go_simp
      exact HK.out _ rfl
     ·have r3 : vs 3 = _ := hI.pv 3 (hn 3 rfl)
      have r8 : vs 8 = _ := hI.pv 8 (hn 8 rfl)
      rw [if_pos (by simp [Region.wanted])]
      simp only [r3, r8] at hK |-
      have HK := Lib.hid (fun (v : Value) (h : v = .bool false) => hK v W ⟨pv_upd hI.pv h, hI.st⟩)
      clear hK hI hn hcl hi
      go_simp
      exact HK.out _ rfl
     ·have r9 : vs 9 = _ := hI.pv 9 (hn 9 rfl)
      rw [if_pos (by simp [Region.wanted])]
      simp only [r9] at hK |-
      have HK := Lib.hid (fun (v : Value) (h : v = .bool false) => hK v W ⟨pv_upd hI.pv h, hI.st⟩)
      clear hK hI hn hcl hi
      go_simp
      exact HK.out _ rfl
     ·have r10 : vs 10 = _ := hI.pv 10 (hn 10 rfl)
      rw [if_neg (by simp [Region.wanted, yielded, r10])]
      exact hK undef W ⟨pv_upd hI.pv rfl, hI.st⟩
     ·have r10 : vs 10 = _ := hI.pv 10 (hn 10 rfl)
      rw [if_neg (by simp [Region.wanted, yielded, r10])]
      exact hK undef W ⟨pv_upd hI.pv rfl, hI.st⟩
     ·have r10 : vs 10 = _ := hI.pv 10 (hn 10 rfl)
      have r12 : vs 12 = undef := hI.pv 12 (hn 12 rfl)
      rw [if_pos (by simp [Region.wanted])]
      simp only [r10, r12] at hK |-
      have HK := Lib.hid (fun (v : Value) (h : v = .bool false) => hK v W ⟨pv_upd hI.pv h, hI.st⟩)
      clear hK hI hn hcl hi
      go_simp
      exact HK.out _ rfl
     ·rw [if_pos (by simp [Region.wanted])]
      have HK := Lib.hid (fun (v : Value) (h : v = .bool true) => hK v W ⟨pv_upd hI.pv h, hI.st⟩)
      clear hK hI hn hcl hi
      go_simp
      exact HK.out _ rfl
     ·rw [if_pos (by simp [Region.wanted])]
      have HK := Lib.hid (fun (v : Value) (h : v = .bool true) => hK v W ⟨pv_upd hI.pv h, hI.st⟩)
      clear hK hI hn hcl hi
      go_simp
      exact HK.out _ rfl
     ·have r15 : vs 15 = _ := hI.pv 15 (hn 15 rfl)
      rw [if_pos (by simp [Region.wanted])]
      simp only [r15] at hK |-
      have HK := Lib.hid (fun (v : Value) (h : v = .bool false) => hK v W ⟨pv_upd hI.pv h, hI.st⟩)
      clear hK hI hn hcl hi
      go_simp
      exact HK.out _ rfl
     ·have r16 : vs 16 = _ := hI.pv 16 (hn 16 rfl)
      rw [if_pos (by simp [Region.wanted])]
      simp only [r16] at hK |-
      have HK := Lib.hid (fun (v : Value) (h : v = .bool false) => hK v W ⟨pv_upd hI.pv h, hI.st⟩)
      clear hK hI hn hcl hi
      go_simp
      exact HK.out _ rfl
     ·have r17 : vs 17 = _ := hI.pv 17 (hn 17 rfl)
      rw [if_neg (by simp [Region.wanted, yielded, r17])]
      exact hK undef W ⟨pv_upd hI.pv rfl, hI.st⟩
     ·have r17 : vs 17 = _ := hI.pv 17 (hn 17 rfl)
      rw [if_neg (by simp [Region.wanted, yielded, r17])]
      exact hK undef W ⟨pv_upd hI.pv rfl, hI.st⟩
     ·have r17 : vs 17 = _ := hI.pv 17 (hn 17 rfl)
      rw [if_neg (by simp [Region.wanted, yielded, r17])]
      exact hK undef W ⟨pv_upd hI.pv rfl, hI.st⟩
     ·have r17 : vs 17 = _ := hI.pv 17 (hn 17 rfl)
      rw [if_neg (by simp [Region.wanted, yielded, r17])]
      exact hK undef W ⟨pv_upd hI.pv rfl, hI.st⟩
     ·have r17 : vs 17 = _ := hI.pv 17 (hn 17 rfl)
      rw [if_neg (by simp [Region.wanted, yielded, r17])]
      exact hK undef W ⟨pv_upd hI.pv rfl, hI.st⟩
     ·have r17 : vs 17 = _ := hI.pv 17 (hn 17 rfl)
      have r22 : vs 22 = undef := hI.pv 22 (hn 22 rfl)
      rw [if_pos (by simp [Region.wanted])]
      simp only [r17, r22] at hK |-
      have HK := Lib.hid (fun (v : Value) (h : v = .bool false) => hK v W ⟨pv_upd hI.pv h, hI.st⟩)
      clear hK hI hn hcl hi
      go_simp
      exact HK.out _ rfl
     ·have r13 : vs 13 = _ := hI.pv 13 (hn 13 rfl)
      have r14 : vs 14 = _ := hI.pv 14 (hn 14 rfl)
      have r23 : vs 23 = _ := hI.pv 23 (hn 23 rfl)
      rw [if_pos (by simp [Region.wanted])]
      simp only [r13, r14, r23] at hK |-
      have HK := Lib.hid (fun (v : Value) (h : v = .agg #[.bool false, .bool true, .bool false]) => hK v W ⟨pv_upd hI.pv h, hI.st⟩)
      clear hK hI hn hcl hi
      go_simp
      exact HK.out _ rfl
     ·have r0 : vs 0 = _ := hI.pv 0 (hn 0 rfl)
      rw [if_pos (by simp [Region.wanted])]
      simp only [r0] at hK |-
      obtain ⟨hb, hka, hkb, hkc, hkd⟩ := hI.st
      rw [hi] at hkc
      simp only [Bool.false_eq_true, if_false] at hkc
      obtain ⟨wz, hw_wz⟩ : ∃ wz, wz = put7 W gc (.int .i64 j.task) (.int .i64 j.seq) (.int .i64 j.prio) (.int .i64 j.release) (.int .i64 j.deadline) (.int .i64 j.demand) (.int .i64 (j.used + 1)) := ⟨_, rfl⟩
      have hk_z := put7_at hkc (.int .i64 j.task) (.int .i64 j.seq) (.int .i64 j.prio) (.int .i64 j.release) (.int .i64 j.deadline) (.int .i64 j.demand) (.int .i64 (j.used + 1))
      have hg_z := put7_grown W gc (.int .i64 j.task) (.int .i64 j.seq) (.int .i64 j.prio) (.int .i64 j.release) (.int .i64 j.deadline) (.int .i64 j.demand) (.int .i64 (j.used + 1))
      rw [<- hw_wz] at hk_z hg_z
      unfold put7 at hw_wz
      have o0 := BlockIs.of hkc 0 _ rfl
      have o1 := BlockIs.of hkc 1 _ rfl
      have o2 := BlockIs.of hkc 2 _ rfl
      have o3 := BlockIs.of hkc 3 _ rfl
      have o4 := BlockIs.of hkc 4 _ rfl
      have o5 := BlockIs.of hkc 5 _ rfl
      have o6 := BlockIs.of hkc 6 _ rfl
      have fz := thaw hkc
      have HN := Lib.hid (show WInv (Ch101V ga gb j t) (fun L W => ChT w ga gb gc gd j t (#[.bool false, .bool true, .bool false]) (L 25) (L 26) W) (updB L 25) (upd vs 25 undef) wz from ⟨pv_upd hI.pv trivial, ⟨bput hb hg_z HGS.out.2.1 (Nat.le_refl _), ((hg_z.block _ (lt_of_block hka) (fun q => by injection q with q; have := HGS.out; omega)).trans hka), ((hg_z.block _ (lt_of_block hkb) (fun q => by injection q with q; have := HGS.out; omega)).trans hkb), hk_z, ((hg_z.block _ (lt_of_block hkd) (fun q => by injection q with q; have := HGS.out; omega)).trans hkd)⟩⟩)
      have HK := Lib.hid hK
      clear hK hI hn hcl hi hb hka hkb hkc hkd hk_z hg_z
      go_simp
      rw [<- hw_wz]
      exact HK.out _ _ HN.out
     ·have r24 : vs 24 = _ := hI.pv 24 (hn 24 rfl)
      rw [if_pos (by simp [Region.wanted])]
      simp only [r24] at hK |-
      obtain ⟨hb, hka, hkb, hkc, hkd⟩ := hI.st
      rw [hi] at hkd
      simp only [Bool.false_eq_true, if_false] at hkd
      obtain ⟨wz, hw_wz⟩ : ∃ wz, wz = put3 W gd (.bool false) (.bool true) (.bool false) := ⟨_, rfl⟩
      have hk_z := put3_at hkd (.bool false) (.bool true) (.bool false)
      have hg_z := put3_grown W gd (.bool false) (.bool true) (.bool false)
      rw [<- hw_wz] at hk_z hg_z
      unfold put3 at hw_wz
      have o0 := BlockIs.of hkd 0 _ rfl
      have o1 := BlockIs.of hkd 1 _ rfl
      have o2 := BlockIs.of hkd 2 _ rfl
      have fz := thaw hkd
      have HN := Lib.hid (show WInv (Ch101V ga gb j t) (fun L W => ChT w ga gb gc gd j t (#[.bool false, .bool true, .bool false]) (L 25) (L 26) W) (updB L 26) (upd vs 26 undef) wz from ⟨pv_upd hI.pv trivial, ⟨bput hb hg_z HGS.out.2.2.1 (Nat.le_refl _), ((hg_z.block _ (lt_of_block hka) (fun q => by injection q with q; have := HGS.out; omega)).trans hka), ((hg_z.block _ (lt_of_block hkb) (fun q => by injection q with q; have := HGS.out; omega)).trans hkb), ((hg_z.block _ (lt_of_block hkc) (fun q => by injection q with q; have := HGS.out; omega)).trans hkc), hk_z⟩⟩)
      have HK := Lib.hid hK
      clear hK hI hn hcl hi hb hka hkb hkc hkd hk_z hg_z
      go_simp
      rw [<- hw_wz]
      exact HK.out _ _ HN.out
     ·rw [if_pos (by simp [Region.wanted])]
      have HK := Lib.hid (fun (v : Value) (h : v = .int .i64 0) => hK v W ⟨pv_upd hI.pv h, hI.st⟩)
      clear hK hI hn hcl hi
      go_simp
      exact HK.out _ rfl
    ·intro vs W hI
     simp only [List.map, putAll, Act.put, List.setIfInBounds_toArray, List.set_cons_succ, List.set_cons_zero, Nat.reduceAdd]
     have hS := hI.st
     have r0 : vs 0 = _ := hI.pv 0 (by simp)
     have r1 : vs 1 = _ := hI.pv 1 (by simp)
     have r2 : vs 2 = _ := hI.pv 2 (by simp)
     have r3 : vs 3 = _ := hI.pv 3 (by simp)
     have r4 : vs 4 = _ := hI.pv 4 (by simp)
     have r5 : vs 5 = _ := hI.pv 5 (by simp)
     have r6 : vs 6 = _ := hI.pv 6 (by simp)
     have r7 : vs 7 = _ := hI.pv 7 (by simp)
     have r8 : vs 8 = _ := hI.pv 8 (by simp)
     have r9 : vs 9 = _ := hI.pv 9 (by simp)
     have r10 : vs 10 = _ := hI.pv 10 (by simp)
     have r11 : vs 11 = undef := hI.pv 11 (by simp)
     have r12 : vs 12 = undef := hI.pv 12 (by simp)
     have r13 : vs 13 = _ := hI.pv 13 (by simp)
     have r14 : vs 14 = _ := hI.pv 14 (by simp)
     have r15 : vs 15 = _ := hI.pv 15 (by simp)
     have r16 : vs 16 = _ := hI.pv 16 (by simp)
     have r17 : vs 17 = _ := hI.pv 17 (by simp)
     have r18 : vs 18 = undef := hI.pv 18 (by simp)
     have r19 : vs 19 = undef := hI.pv 19 (by simp)
     have r20 : vs 20 = undef := hI.pv 20 (by simp)
     have r21 : vs 21 = undef := hI.pv 21 (by simp)
     have r22 : vs 22 = undef := hI.pv 22 (by simp)
     have r23 : vs 23 = _ := hI.pv 23 (by simp)
     have r24 : vs 24 = _ := hI.pv 24 (by simp)
     have r27 : vs 27 = _ := hI.pv 27 (by simp)
     simp only [r0, r1, r2, r3, r4, r5, r6, r7, r8, r9, r10, r11, r12, r13, r14, r15, r16, r17, r18, r19, r20, r21, r22, r23, r24, r27]
     clear hI r0 r1 r2 r3 r4 r5 r6 r7 r8 r9 r10 r11 r12 r13 r14 r15 r16 r17 r18 r19 r20 r21 r22 r23 r24 r27
     obtain ⟨hb, -, -, hkc, hkd⟩ := hS
     have c0 := BlockIs.of hkc 0 _ rfl
     have c1 := BlockIs.of hkc 1 _ rfl
     have c2 := BlockIs.of hkc 2 _ rfl
     have c3 := BlockIs.of hkc 3 _ rfl
     have c4 := BlockIs.of hkc 4 _ rfl
     have c5 := BlockIs.of hkc 5 _ rfl
     have c6 := BlockIs.of hkc 6 _ rfl
     have d0 := BlockIs.of hkd 0 _ rfl
     have d1 := BlockIs.of hkd 1 _ rfl
     have d2 := BlockIs.of hkd 2 _ rfl
     have HBW := Lib.hid hb
     clear hb hkc hkd
     go_wp2_with fail
     refine bodyPost_ret (v := .tuple #[jobV (chJ j), .agg #[.bool false, .bool true, .bool false], .int .i64 0]) (by simp [results, Tryz.results143, go_sem, c0, c1, c2, c3, c4, c5, c6, d0, d1, d2, jobV, chJ]) rfl ⟨by rw [HV.out]; rfl, HBW.out⟩
   ·go_wp2_with (rw [<- hw3]; clear hw3 a5 a6 fa)
    clear n5 n6
    have HS0 := Lib.hid (show ChT w ga gb gc gd j t #[.bool false, .bool true, .bool false] false false (w3.drew) from ⟨below_drew HB3.out, HKA3.out, HKB3.out, HKC3.out, HKD3.out⟩)
    refine region_inv0 rfl (by kernel_rfl) (WInv (Ch111V ga gb j t) (fun L W => ChT w ga gb gc gd j t (#[.bool false, .bool true, .bool false]) (L 25) (L 26) W)) (fun vs h0 => ⟨(fun i h => by cases h), HS0.out⟩) ?_ ?_
    ·simp (config := { maxSteps := 4000000 }) only [List.map, putAll, Act.put, InvE, List.setIfInBounds_toArray, List.set_cons_succ, List.set_cons_zero, Nat.reduceAdd]
     refine ⟨?_, ?_, ?_, ?_, ?_, ?_, ?_, ?_, ?_, ?_, ?_, ?_, ?_, ?_, ?_, ?_, ?_, ?_, ?_, ?_, ?_, ?_, ?_, ?_, ?_, ?_, ?_, ?_, trivial⟩
     all_goals intro L vs W hI hi hn hcl K hK
     ·rw [if_pos (by simp [Region.wanted])]
      have hS := hI.st
      obtain ⟨-, hka, -, -, -⟩ := hS
      have a0 := BlockIs.of hka 0 _ rfl
      have a1 := BlockIs.of hka 1 _ rfl
      have a2 := BlockIs.of hka 2 _ rfl
      have a3 := BlockIs.of hka 3 _ rfl
      have a4 := BlockIs.of hka 4 _ rfl
      have a5 := BlockIs.of hka 5 _ rfl
      have a6 := BlockIs.of hka 6 _ rfl
      clear hka
      have HK := Lib.hid (fun (v : Value) (h : v = .agg #[.int .i64 j.task, .int .i64 j.seq, .int .i64 j.prio, .int .i64 j.release, .int .i64 j.deadline, .int .i64 j.demand, .int .i64 (j.used + 1)]) => hK v W ⟨pv_upd hI.pv h, hI.st⟩)
      clear hK hI hn hcl hi
      go_simp
      exact HK.out _ rfl
     ·rw [if_pos (by simp [Region.wanted])]
      have HK := Lib.hid (fun (v : Value) (h : v = .int .i64 1) => hK v W ⟨pv_upd hI.pv h, hI.st⟩)
      clear hK hI hn hcl hi
      go_simp
      exact HK.out _ rfl
     ·have r1 : vs 1 = _ := hI.pv 1 (hn 1 rfl)
      rw [if_pos (by simp [Region.wanted])]
      simp only [r1] at hK |-
      have HK := Lib.hid (fun (v : Value) (h : v = .bool true) => hK v W ⟨pv_upd hI.pv h, hI.st⟩)
      clear hK hI hn hcl hi
      go_simp
      exact HK.out _ rfl
     ·have r2 : vs 2 = _ := hI.pv 2 (hn 2 rfl)
      rw [if_pos (by simp [Region.wanted])]
      simp only [r2] at hK |-
      have HK := Lib.hid (fun (v : Value) (h : v = .bool true) => hK v W ⟨pv_upd hI.pv h, hI.st⟩)
      clear hK hI hn hcl hi
      go_simp
      exact HK.out _ rfl
     ·have r3 : vs 3 = _ := hI.pv 3 (hn 3 rfl)
      rw [if_pos (by simp [Region.wanted, yielded, r3])]
      simp only [r3] at hK |-
      have HK := Lib.hid (fun (v : Value) (h : v = .pointer (some ⟨ga, 6, none⟩)) => hK v W ⟨pv_upd hI.pv h, hI.st⟩)
      clear hK hI hn hcl hi
      go_simp
      exact HK.out _ rfl
     ·have r3 : vs 3 = _ := hI.pv 3 (hn 3 rfl)
      have r4 : vs 4 = _ := hI.pv 4 (hn 4 rfl)
      rw [if_pos (by simp [Region.wanted, yielded, r3])]
      have hS := hI.st
      obtain ⟨-, hka, -, -, -⟩ := hS
      have a6 := BlockIs.of hka 6 _ rfl
      clear hka
      simp only [r3, r4] at hK |-
      have HK := Lib.hid (fun (v : Value) (h : v = .int .i64 (j.used + 1)) => hK v W ⟨pv_upd hI.pv h, hI.st⟩)
      clear hK hI hn hcl hi
      go_simp
      exact HK.out _ rfl
     ·have r3 : vs 3 = _ := hI.pv 3 (hn 3 rfl)
      rw [if_pos (by simp [Region.wanted, yielded, r3])]
      simp only [r3] at hK |-
      have HK := Lib.hid (fun (v : Value) (h : v = .pointer (some ⟨gb, 3, none⟩)) => hK v W ⟨pv_upd hI.pv h, hI.st⟩)
      clear hK hI hn hcl hi
      go_simp
      exact HK.out _ rfl
     ·have r3 : vs 3 = _ := hI.pv 3 (hn 3 rfl)
      have r6 : vs 6 = _ := hI.pv 6 (hn 6 rfl)
      rw [if_pos (by simp [Region.wanted, yielded, r3])]
      have hS := hI.st
      obtain ⟨-, -, hkb, -, -⟩ := hS
      have b3 := BlockIs.of hkb 3 _ rfl
      clear hkb
      simp only [r3, r6] at hK |-
      have HK := Lib.hid (fun (v : Value) (h : v = .int .i64 t.clow) => hK v W ⟨pv_upd hI.pv h, hI.st⟩)
      clear hK hI hn hcl hi
      go_simp
      exact HK.out _ rfl
     ·have r3 : vs 3 = _ := hI.pv 3 (hn 3 rfl)
      have r5 : vs 5 = _ := hI.pv 5 (hn 5 rfl)
      have r7 : vs 7 = _ := hI.pv 7 (hn 7 rfl)
      rw [if_pos (by simp [Region.wanted, yielded, r3])]
      simp only [r3, r5, r7] at hK |-
      have HK := Lib.hid (fun (v : Value) (h : v = .bool true) => hK v W ⟨pv_upd hI.pv h, hI.st⟩)
      clear hK hI hn hcl hi
      go_simp
      exact HK.out _ rfl
     ·have r3 : vs 3 = _ := hI.pv 3 (hn 3 rfl)
      have r8 : vs 8 = _ := hI.pv 8 (hn 8 rfl)
      rw [if_pos (by simp [Region.wanted])]
      simp only [r3, r8] at hK |-
      have HK := Lib.hid (fun (v : Value) (h : v = .bool true) => hK v W ⟨pv_upd hI.pv h, hI.st⟩)
      clear hK hI hn hcl hi
      go_simp
      exact HK.out _ rfl
     ·have r9 : vs 9 = _ := hI.pv 9 (hn 9 rfl)
      rw [if_pos (by simp [Region.wanted])]
      simp only [r9] at hK |-
      have HK := Lib.hid (fun (v : Value) (h : v = .bool true) => hK v W ⟨pv_upd hI.pv h, hI.st⟩)
      clear hK hI hn hcl hi
      go_simp
      exact HK.out _ rfl
     ·have r10 : vs 10 = _ := hI.pv 10 (hn 10 rfl)
      rw [if_pos (by simp [Region.wanted, yielded, r10])]
      simp only [r10] at hK |-
      have HK := Lib.hid (fun (v : Value) (h : v = .bool true) => hK v W ⟨pv_upd hI.pv h, hI.st⟩)
      clear hK hI hn hcl hi
      go_simp
      exact HK.out _ rfl
     ·have r10 : vs 10 = _ := hI.pv 10 (hn 10 rfl)
      have r11 : vs 11 = _ := hI.pv 11 (hn 11 rfl)
      rw [if_pos (by simp [Region.wanted, yielded, r10])]
      simp only [r10, r11] at hK |-
      have HK := Lib.hid (fun (v : Value) (h : v = .bool false) => hK v W ⟨pv_upd hI.pv h, hI.st⟩)
      clear hK hI hn hcl hi
      go_simp
      exact HK.out _ rfl
     ·have r10 : vs 10 = _ := hI.pv 10 (hn 10 rfl)
      have r12 : vs 12 = _ := hI.pv 12 (hn 12 rfl)
      rw [if_pos (by simp [Region.wanted])]
      simp only [r10, r12] at hK |-
      have HK := Lib.hid (fun (v : Value) (h : v = .bool false) => hK v W ⟨pv_upd hI.pv h, hI.st⟩)
      clear hK hI hn hcl hi
      go_simp
      exact HK.out _ rfl
     ·rw [if_pos (by simp [Region.wanted])]
      have HK := Lib.hid (fun (v : Value) (h : v = .bool true) => hK v W ⟨pv_upd hI.pv h, hI.st⟩)
      clear hK hI hn hcl hi
      go_simp
      exact HK.out _ rfl
     ·rw [if_pos (by simp [Region.wanted])]
      have HK := Lib.hid (fun (v : Value) (h : v = .bool true) => hK v W ⟨pv_upd hI.pv h, hI.st⟩)
      clear hK hI hn hcl hi
      go_simp
      exact HK.out _ rfl
     ·have r15 : vs 15 = _ := hI.pv 15 (hn 15 rfl)
      rw [if_pos (by simp [Region.wanted])]
      simp only [r15] at hK |-
      have HK := Lib.hid (fun (v : Value) (h : v = .bool false) => hK v W ⟨pv_upd hI.pv h, hI.st⟩)
      clear hK hI hn hcl hi
      go_simp
      exact HK.out _ rfl
     ·have r16 : vs 16 = _ := hI.pv 16 (hn 16 rfl)
      rw [if_pos (by simp [Region.wanted])]
      simp only [r16] at hK |-
      have HK := Lib.hid (fun (v : Value) (h : v = .bool false) => hK v W ⟨pv_upd hI.pv h, hI.st⟩)
      clear hK hI hn hcl hi
      go_simp
      exact HK.out _ rfl
     ·have r17 : vs 17 = _ := hI.pv 17 (hn 17 rfl)
      rw [if_neg (by simp [Region.wanted, yielded, r17])]
      exact hK undef W ⟨pv_upd hI.pv rfl, hI.st⟩
     ·have r17 : vs 17 = _ := hI.pv 17 (hn 17 rfl)
      rw [if_neg (by simp [Region.wanted, yielded, r17])]
      exact hK undef W ⟨pv_upd hI.pv rfl, hI.st⟩
     ·have r17 : vs 17 = _ := hI.pv 17 (hn 17 rfl)
      rw [if_neg (by simp [Region.wanted, yielded, r17])]
      exact hK undef W ⟨pv_upd hI.pv rfl, hI.st⟩
     ·have r17 : vs 17 = _ := hI.pv 17 (hn 17 rfl)
      rw [if_neg (by simp [Region.wanted, yielded, r17])]
      exact hK undef W ⟨pv_upd hI.pv rfl, hI.st⟩
     ·have r17 : vs 17 = _ := hI.pv 17 (hn 17 rfl)
      rw [if_neg (by simp [Region.wanted, yielded, r17])]
      exact hK undef W ⟨pv_upd hI.pv rfl, hI.st⟩
     ·have r17 : vs 17 = _ := hI.pv 17 (hn 17 rfl)
      have r22 : vs 22 = undef := hI.pv 22 (hn 22 rfl)
      rw [if_pos (by simp [Region.wanted])]
      simp only [r17, r22] at hK |-
      have HK := Lib.hid (fun (v : Value) (h : v = .bool false) => hK v W ⟨pv_upd hI.pv h, hI.st⟩)
      clear hK hI hn hcl hi
      go_simp
      exact HK.out _ rfl
     ·have r13 : vs 13 = _ := hI.pv 13 (hn 13 rfl)
      have r14 : vs 14 = _ := hI.pv 14 (hn 14 rfl)
      have r23 : vs 23 = _ := hI.pv 23 (hn 23 rfl)
      rw [if_pos (by simp [Region.wanted])]
      simp only [r13, r14, r23] at hK |-
      have HK := Lib.hid (fun (v : Value) (h : v = .agg #[.bool false, .bool true, .bool false]) => hK v W ⟨pv_upd hI.pv h, hI.st⟩)
      clear hK hI hn hcl hi
      go_simp
      exact HK.out _ rfl
     ·have r0 : vs 0 = _ := hI.pv 0 (hn 0 rfl)
      rw [if_pos (by simp [Region.wanted])]
      simp only [r0] at hK |-
      obtain ⟨hb, hka, hkb, hkc, hkd⟩ := hI.st
      rw [hi] at hkc
      simp only [Bool.false_eq_true, if_false] at hkc
      obtain ⟨wz, hw_wz⟩ : ∃ wz, wz = put7 W gc (.int .i64 j.task) (.int .i64 j.seq) (.int .i64 j.prio) (.int .i64 j.release) (.int .i64 j.deadline) (.int .i64 j.demand) (.int .i64 (j.used + 1)) := ⟨_, rfl⟩
      have hk_z := put7_at hkc (.int .i64 j.task) (.int .i64 j.seq) (.int .i64 j.prio) (.int .i64 j.release) (.int .i64 j.deadline) (.int .i64 j.demand) (.int .i64 (j.used + 1))
      have hg_z := put7_grown W gc (.int .i64 j.task) (.int .i64 j.seq) (.int .i64 j.prio) (.int .i64 j.release) (.int .i64 j.deadline) (.int .i64 j.demand) (.int .i64 (j.used + 1))
      rw [<- hw_wz] at hk_z hg_z
      unfold put7 at hw_wz
      have o0 := BlockIs.of hkc 0 _ rfl
      have o1 := BlockIs.of hkc 1 _ rfl
      have o2 := BlockIs.of hkc 2 _ rfl
      have o3 := BlockIs.of hkc 3 _ rfl
      have o4 := BlockIs.of hkc 4 _ rfl
      have o5 := BlockIs.of hkc 5 _ rfl
      have o6 := BlockIs.of hkc 6 _ rfl
      have fz := thaw hkc
      have HN := Lib.hid (show WInv (Ch111V ga gb j t) (fun L W => ChT w ga gb gc gd j t (#[.bool false, .bool true, .bool false]) (L 25) (L 26) W) (updB L 25) (upd vs 25 undef) wz from ⟨pv_upd hI.pv trivial, ⟨bput hb hg_z HGS.out.2.1 (Nat.le_refl _), ((hg_z.block _ (lt_of_block hka) (fun q => by injection q with q; have := HGS.out; omega)).trans hka), ((hg_z.block _ (lt_of_block hkb) (fun q => by injection q with q; have := HGS.out; omega)).trans hkb), hk_z, ((hg_z.block _ (lt_of_block hkd) (fun q => by injection q with q; have := HGS.out; omega)).trans hkd)⟩⟩)
      have HK := Lib.hid hK
      clear hK hI hn hcl hi hb hka hkb hkc hkd hk_z hg_z
      go_simp
      rw [<- hw_wz]
      exact HK.out _ _ HN.out
     ·have r24 : vs 24 = _ := hI.pv 24 (hn 24 rfl)
      rw [if_pos (by simp [Region.wanted])]
      simp only [r24] at hK |-
      obtain ⟨hb, hka, hkb, hkc, hkd⟩ := hI.st
      rw [hi] at hkd
      simp only [Bool.false_eq_true, if_false] at hkd
      obtain ⟨wz, hw_wz⟩ : ∃ wz, wz = put3 W gd (.bool false) (.bool true) (.bool false) := ⟨_, rfl⟩
      have hk_z := put3_at hkd (.bool false) (.bool true) (.bool false)
      have hg_z := put3_grown W gd (.bool false) (.bool true) (.bool false)
      rw [<- hw_wz] at hk_z hg_z
      unfold put3 at hw_wz
      have o0 := BlockIs.of hkd 0 _ rfl
      have o1 := BlockIs.of hkd 1 _ rfl
      have o2 := BlockIs.of hkd 2 _ rfl
      have fz := thaw hkd
      have HN := Lib.hid (show WInv (Ch111V ga gb j t) (fun L W => ChT w ga gb gc gd j t (#[.bool false, .bool true, .bool false]) (L 25) (L 26) W) (updB L 26) (upd vs 26 undef) wz from ⟨pv_upd hI.pv trivial, ⟨bput hb hg_z HGS.out.2.2.1 (Nat.le_refl _), ((hg_z.block _ (lt_of_block hka) (fun q => by injection q with q; have := HGS.out; omega)).trans hka), ((hg_z.block _ (lt_of_block hkb) (fun q => by injection q with q; have := HGS.out; omega)).trans hkb), ((hg_z.block _ (lt_of_block hkc) (fun q => by injection q with q; have := HGS.out; omega)).trans hkc), hk_z⟩⟩)
      have HK := Lib.hid hK
      clear hK hI hn hcl hi hb hka hkb hkc hkd hk_z hg_z
      go_simp
      rw [<- hw_wz]
      exact HK.out _ _ HN.out
     ·rw [if_pos (by simp [Region.wanted])]
      have HK := Lib.hid (fun (v : Value) (h : v = .int .i64 0) => hK v W ⟨pv_upd hI.pv h, hI.st⟩)
      clear hK hI hn hcl hi
      go_simp
      exact HK.out _ rfl
    ·intro vs W hI
     simp only [List.map, putAll, Act.put, List.setIfInBounds_toArray, List.set_cons_succ, List.set_cons_zero, Nat.reduceAdd]
     have hS := hI.st
     have r0 : vs 0 = _ := hI.pv 0 (by simp)
     have r1 : vs 1 = _ := hI.pv 1 (by simp)
     have r2 : vs 2 = _ := hI.pv 2 (by simp)
     have r3 : vs 3 = _ := hI.pv 3 (by simp)
     have r4 : vs 4 = _ := hI.pv 4 (by simp)
     have r5 : vs 5 = _ := hI.pv 5 (by simp)
     have r6 : vs 6 = _ := hI.pv 6 (by simp)
     have r7 : vs 7 = _ := hI.pv 7 (by simp)
     have r8 : vs 8 = _ := hI.pv 8 (by simp)
     have r9 : vs 9 = _ := hI.pv 9 (by simp)
     have r10 : vs 10 = _ := hI.pv 10 (by simp)
     have r11 : vs 11 = _ := hI.pv 11 (by simp)
     have r12 : vs 12 = _ := hI.pv 12 (by simp)
     have r13 : vs 13 = _ := hI.pv 13 (by simp)
     have r14 : vs 14 = _ := hI.pv 14 (by simp)
     have r15 : vs 15 = _ := hI.pv 15 (by simp)
     have r16 : vs 16 = _ := hI.pv 16 (by simp)
     have r17 : vs 17 = _ := hI.pv 17 (by simp)
     have r18 : vs 18 = undef := hI.pv 18 (by simp)
     have r19 : vs 19 = undef := hI.pv 19 (by simp)
     have r20 : vs 20 = undef := hI.pv 20 (by simp)
     have r21 : vs 21 = undef := hI.pv 21 (by simp)
     have r22 : vs 22 = undef := hI.pv 22 (by simp)
     have r23 : vs 23 = _ := hI.pv 23 (by simp)
     have r24 : vs 24 = _ := hI.pv 24 (by simp)
     have r27 : vs 27 = _ := hI.pv 27 (by simp)
     simp only [r0, r1, r2, r3, r4, r5, r6, r7, r8, r9, r10, r11, r12, r13, r14, r15, r16, r17, r18, r19, r20, r21, r22, r23, r24, r27]
     clear hI r0 r1 r2 r3 r4 r5 r6 r7 r8 r9 r10 r11 r12 r13 r14 r15 r16 r17 r18 r19 r20 r21 r22 r23 r24 r27
     obtain ⟨hb, -, -, hkc, hkd⟩ := hS
     have c0 := BlockIs.of hkc 0 _ rfl
     have c1 := BlockIs.of hkc 1 _ rfl
     have c2 := BlockIs.of hkc 2 _ rfl
     have c3 := BlockIs.of hkc 3 _ rfl
     have c4 := BlockIs.of hkc 4 _ rfl
     have c5 := BlockIs.of hkc 5 _ rfl
     have c6 := BlockIs.of hkc 6 _ rfl
     have d0 := BlockIs.of hkd 0 _ rfl
     have d1 := BlockIs.of hkd 1 _ rfl
     have d2 := BlockIs.of hkd 2 _ rfl
     have HBW := Lib.hid hb
     clear hb hkc hkd
     go_wp2_with fail
     refine bodyPost_ret (v := .tuple #[jobV (chJ j), .agg #[.bool false, .bool true, .bool false], .int .i64 0]) (by simp [results, Tryz.results143, go_sem, c0, c1, c2, c3, c4, c5, c6, d0, d1, d2, jobV, chJ]) rfl ⟨by rw [HV.out]; rfl, HBW.out⟩
end Go.Proofs.YtooeeiiiflfckaaGreat
