/- Several texts of this claim as one. -/
import Derived.Test.YtooeeiiiflfckaaGreatLibA
import Derived.Test.YtooeeiiiflfckaaGreatProg
import Derived.Test.YtooeeiiiflfckaaGreatChkA
/- Jobs: how they lie in memory, what is said of them; cmp.Compare, cmp.Or, ready.compare, the reference's ahead. -/
set_option linter.unusedVariables false
set_option linter.unusedSimpArgs false
namespace Go.Proofs.YtooeeiiiflfckaaGreat
open Go.RowKit
structure Job where
 task : Int
 seq : Int
 prio : Int
 release : Int
 deadline : Int
 demand : Int
 used : Int
deriving DecidableEq
def JobAt (w : World) (b o : Nat) (x : Job) : Prop := IntAt w b o x.task /\ IntAt w b (o + 1) x.seq /\ IntAt w b (o + 2) x.prio /\ IntAt w b (o + 3) x.release /\ IntAt w b (o + 4) x.deadline /\ IntAt w b (o + 5) x.demand /\ IntAt w b (o + 6) x.used
theorem JobAt.ext {w w' : World} (e : Ext w w') {b o : Nat} {x : Job} (h : JobAt w b o x) : JobAt w' b o x := ⟨h.1.ext e, h.2.1.ext e, h.2.2.1.ext e, h.2.2.2.1.ext e, h.2.2.2.2.1.ext e, h.2.2.2.2.2.1.ext e, h.2.2.2.2.2.2.ext e⟩
def JobsV (w : World) (v : Value) (xs : List Job) : Prop := SliceAt JobAt 7 56 w v xs
theorem JobsV.ext {w w' : World} (e : Ext w w') {v : Value} {xs : List Job} (h : JobsV w v xs) : JobsV w' v xs := SliceAt.ext (fun _ _ _ => JobAt.ext e) h
def jobCells (x : Job) : List Value := [.int .i64 x.task, .int .i64 x.seq, .int .i64 x.prio, .int .i64 x.release, .int .i64 x.deadline, .int .i64 x.demand, .int .i64 x.used]
abbrev jobV (x : Job) : Value := .agg #[.int .i64 x.task, .int .i64 x.seq, .int .i64 x.prio, .int .i64 x.release, .int .i64 x.deadline, .int .i64 x.demand, .int .i64 x.used]
theorem flatJob : Flat JobAt 7 jobCells where
 pos := by decide
 len _ := rfl
 one x u hu := by simp [jobCells] at hu; rcases hu with rfl | rfl | rfl | rfl | rfl | rfl | rfl <;> rfl
 of W b o x h := ⟨h 0 _ rfl, h 1 _ rfl, h 2 _ rfl, h 3 _ rfl, h 4 _ rfl, h 5 _ rfl, h 6 _ rfl⟩
 cell W b o x h j u hu := by
  obtain ⟨h0, h1, h2, h3, h4, h5, h6⟩ := h
  match j, hu with
  | 0, hu => injection hu with hu; subst hu; exact h0
  | 1, hu => injection hu with hu; subst hu; exact h1
  | 2, hu => injection hu with hu; subst hu; exact h2
  | 3, hu => injection hu with hu; subst hu; exact h3
  | 4, hu => injection hu with hu; subst hu; exact h4
  | 5, hu => injection hu with hu; subst hu; exact h5
  | 6, hu => injection hu with hu; subst hu; exact h6
theorem infoJob : (Tryz.prog.info? 124).map (fun i => (i.zero, i.size, i.bytes)) = some (some (.agg #[.int .i64 0, .int .i64 0, .int .i64 0, .int .i64 0, .int .i64 0, .int .i64 0, .int .i64 0]), 7, 56) := by kernel_rfl
def JobRow (W : World) (B : Nat) (v : Value) (es : List Job) : Prop := W.ownsRow B 124 7 v es.length (es.flatMap jobCells)
theorem JobRow.snoc {W : World} {B : Nat} {v : Value} {es : List Job} {x : Job} {n : Nat} (hn : n = es.length) (h : W.ownsRow B 124 7 v (n + 1) (es.flatMap jobCells ++ jobCells x)) : JobRow W B v (es ++ [x]) := by
 subst hn
 unfold JobRow
 rw [List.length_append, List.flatMap_append]
 simpa using h
theorem JobRow.jobs {W : World} {B : Nat} {v : Value} {es : List Job} (h : JobRow W B v es) (hB : es.length * 56 <= 140737488351232) : JobsV W v es := flatJob.slice h hB
def cmpI (a b : Int) : Int := if a < b then -1 else if b < a then 1 else 0
def orI (xs : List Int) : Int := (xs.find? (fun x => decide (x ≠ 0))).getD 0
def cmpJ (a b : Job) : Int := orI [cmpI a.prio b.prio, cmpI a.release b.release, cmpI a.task b.task]
def ahead (a b : Job) : Bool := decide (a.prio < b.prio ∨ a.prio = b.prio /\ (a.release < b.release ∨ a.release = b.release /\ a.task < b.task))
theorem cmpJ_neg (a b : Job) : cmpJ a b < 0 ↔ ahead a b = true := by
 unfold cmpJ ahead orI cmpI
 simp only [List.find?_cons, List.find?_nil, decide_eq_true_eq]
 repeat' split
 all_goals simp_all
 all_goals omega
theorem cmpJ_zero (a b : Job) : cmpJ a b = 0 ↔ ahead a b = false /\ ahead b a = false := by
 unfold cmpJ ahead orI cmpI
 simp only [List.find?_cons, List.find?_nil, decide_eq_false_iff_not]
 repeat' split
 all_goals simp_all
 all_goals omega
def jobMay (j : Job) : Bool := decide (0 <= j.task /\ j.task < 6 /\ 0 <= j.seq /\ 0 <= j.prio /\ j.prio <= 255 /\ 0 <= j.release /\ j.release <= 1099511627776 /\ j.release < j.deadline /\ 1 <= j.demand /\ j.demand <= 65535 /\ 0 <= j.used /\ j.used < j.demand)
set_option maxRecDepth 100000 in
set_option maxHeartbeats 400000 in
theorem isNaN_any (a : Int) (w : World) : Calls Tryz.prog 157 #[.int .i64 a] w fun e w' => e = .returned (.bool false) /\ w' = w := by
 have h : (a != a) = false := by simp
 go_enter Tryz.func157, Tryz.ntmps157
 go_wp2_with fail
 go_ret
 exact ⟨rfl, rfl⟩
set_option maxRecDepth 100000 in
set_option maxHeartbeats 400000 in
theorem cmpI_any (a b : Int) (w : World) : Calls Tryz.prog 155 #[.int .i64 a, .int .i64 b] w fun e w' => e = .returned (.int .i64 (cmpI a b)) /\ w' = w := by
 by_cases h : a < b
 ·have HI := Lib.hid (show cmpI a b = -1 by unfold cmpI; rw [if_pos h])
  go_enter Tryz.func155, Tryz.ntmps155
  go_wp2_with ((go_at_call 157; refine (isNaN_any _ _).mono ?_; rintro e w' ⟨rfl, rfl⟩))
  go_ret
  exact ⟨ret_int HI.out.symm, rfl⟩
 ·by_cases h' : b < a
  ·have HI := Lib.hid (show cmpI a b = 1 by unfold cmpI; rw [if_neg h, if_pos h'])
   go_enter Tryz.func155, Tryz.ntmps155
   go_wp2_with ((go_at_call 157; refine (isNaN_any _ _).mono ?_; rintro e w' ⟨rfl, rfl⟩))
   go_ret
   exact ⟨ret_int HI.out.symm, rfl⟩
  ·have HI := Lib.hid (show cmpI a b = 0 by unfold cmpI; rw [if_neg h, if_neg h'])
   go_enter Tryz.func155, Tryz.ntmps155
   go_wp2_with ((go_at_call 157; refine (isNaN_any _ _).mono ?_; rintro e w' ⟨rfl, rfl⟩))
   go_ret
   exact ⟨ret_int HI.out.symm, rfl⟩
set_option maxRecDepth 100000 in
set_option maxHeartbeats 400000 in
theorem or3_any (b : Nat) (x y z : Int) (w : World) (h0 : w.cell? ⟨b, 0, none⟩ = some (.int .i64 x)) (h1 : w.cell? ⟨b, 1, none⟩ = some (.int .i64 y)) (h2 : w.cell? ⟨b, 2, none⟩ = some (.int .i64 z)) :
  Calls Tryz.prog 154 #[.slice (some ⟨b, 0, none⟩) 3 3] w fun e w' => e = .returned (.int .i64 (orI [x, y, z])) /\ w' = w := by
 have hb : ∀ k : Nat, k < 3 -> w.cell? ⟨b, k, none⟩ = some (.int .i64 ([x, y, z].getD k 0)) := by
  intro k hk
  rcases (show k = 0 ∨ k = 1 ∨ k = 2 by omega) with rfl | rfl | rfl
  ·exact h0
  ·exact h1
  ·exact h2
 have H := Lib.hid hb
 clear hb h0 h1 h2
 go_enter Tryz.func154, Tryz.ntmps154
 go_wp2_with fail
 go_loopw [8] (fun i wr => ∃ k : Nat, k <= 3 /\ i = .int .i64 k /\ Hid (orI [x, y, z] = orI ([x, y, z].drop k)) /\ wr = w) (fun i _ => 3 - (intOf i).toNat)
 case atStart => exact ⟨0, by omega, rfl, Lib.hid rfl, by trivial⟩
 case round =>
  obtain ⟨k, hk, rfl, HD, rfl⟩ := hrel
  by_cases hlt : k < 3
  ·have q := H.out k hlt
   have hd : [x, y, z].drop k = [x, y, z].getD k 0 :: [x, y, z].drop (k + 1) := by
    rcases (show k = 0 ∨ k = 1 ∨ k = 2 by omega) with rfl | rfl | rfl <;> rfl
   have HE := Lib.hid hd
   clear hd
   obtain ⟨t, ht⟩ : ∃ t, t = [x, y, z].getD k 0 := ⟨_, rfl⟩
   rw [<- ht] at q
   have HT := Lib.hid ht
   clear ht
   by_cases hz : t = 0
   ·subst hz
    go_wp2_with fail
    go_roundw
    case rel => exact ⟨k + 1, by omega, by go_num, Lib.hid (by rw [HD.out, HE.out, <- HT.out]; simp [orI]), by trivial⟩
    case measure => simp [intOf]; omega
   ·go_wp2_with fail
    go_ret
    refine ⟨ret_int ?_, rfl⟩
    rw [HD.out, HE.out, <- HT.out]
    simp [orI, hz]
  ·obtain rfl : k = 3 := by omega
   go_wp2_with fail
   go_ret
   exact ⟨ret_int (by rw [HD.out]; rfl), rfl⟩
set_option maxRecDepth 100000 in
set_option maxHeartbeats 1000000 in
theorem compare_any (x y : Job) (w : World) : Calls Tryz.prog 147 #[jobV x, jobV y] w fun e w' => e = .returned (.int .i64 (cmpJ x y)) /\ Below w.heap.size w w' := by
 go_enter Tryz.func147, Tryz.ntmps147
 go_wp2_with fail
 have hb0 := (bthen (balloc w (.cells #[.int .i64 x.task, .int .i64 x.seq, .int .i64 x.prio, .int .i64 x.release, .int .i64 x.deadline, .int .i64 x.demand, .int .i64 x.used] 124)) (balloc _ (.cells #[.int .i64 y.task, .int .i64 y.seq, .int .i64 y.prio, .int .i64 y.release, .int .i64 y.deadline, .int .i64 y.demand, .int .i64 y.used] 124)))
 have HB0 := Lib.hid hb0
 clear hb0
 refine region_tail 15 (by kernel_rfl) (by kernel_rfl) ?_
 intro wy hy hby
 have hx : ∀ j v, (jobCells x)[j]? = some v -> wy.cell? ⟨w.heap.size, j, none⟩ = some v := fun j v h => by
  rw [cell_of_heap hy]
  exact Ext.alloc _ _ _ _ (box_at j (by simpa [jobCells] using h))
 have hz : ∀ j v, (jobCells y)[j]? = some v -> wy.cell? ⟨w.heap.size + 1, j, none⟩ = some v := fun j v h => by
  rw [cell_of_heap hy]
  have := box_at (w := w.alloc (.cells #[.int .i64 x.task, .int .i64 x.seq, .int .i64 x.prio, .int .i64 x.release, .int .i64 x.deadline, .int .i64 x.demand, .int .i64 x.used] 124)) (cs := #[.int .i64 y.task, .int .i64 y.seq, .int .i64 y.prio, .int .i64 y.release, .int .i64 y.deadline, .int .i64 y.demand, .int .i64 y.used]) (t := 124) (fr := (0, 0)) j (v := v) (by simpa [jobCells] using h)
  simpa using this
 have x0 := hx 0 _ rfl
 have x2 := hx 2 _ rfl
 have x3 := hx 3 _ rfl
 have y0 := hz 0 _ rfl
 have y2 := hz 2 _ rfl
 have y3 := hz 3 _ rfl
 have HBY := Lib.hid (bthen HB0.out hby)
 clear hx hz hy hby
 simp only [List.take_succ_cons, List.take_zero, List.drop_succ_cons, List.drop_zero]
 repeat still_step
 still_call (cmpI_any _ _ _)
 repeat still_step
 still_call (cmpI_any _ _ _)
 repeat still_step
 still_call (cmpI_any _ _ _)
 refine wpStill_nil ?_
 go_wp2_with ((go_at_call 154; refine (or3_any wy.heap.size (cmpI x.prio y.prio) (cmpI x.release y.release) (cmpI x.task y.task) _ (box_at 0 rfl) (box_at 1 rfl) (box_at 2 rfl)).mono ?_; rintro e w' ⟨rfl, rfl⟩))
 go_ret
 exact ⟨rfl, bthen HBY.out (balloc _ _)⟩
end Go.Proofs.YtooeeiiiflfckaaGreat
/- ready.job, one way a theorem. -/
namespace Go.Proofs.YtooeeiiiflfckaaGreat
open Go.RowKit
set_option maxRecDepth 100000 in
set_option maxHeartbeats 1000000 in
theorem job_leaf0 (b o : Nat) (x : Job) (w : World) (hx : JobAt w b o x) (e0 : decide (0 <= x.prio) = false) : Calls Tryz.prog 135 #[.pointer (some ⟨b, o, none⟩)] w fun e w' => e = .returned (.bool false) /\ ∃ m, w' = w.drewN m := by
 obtain ⟨y0, y1, y2, y3, y4, y5, y6⟩ := hx
 unfold IntAt at y0 y1 y2 y3 y4 y5 y6
 go_enter Tryz.func135, Tryz.ntmps135
 go_wp2_with fail
 simp only [List.append_eq, List.cons_append, List.nil_append]
 go_quiet (first | (go_at_call 35; exact Calls.quiet_of_same (clock_any _ _)) | (go_at_call 101; exact Calls.quiet_of_same (demandMay_any _ _)))
 go_wp2_with fail
 go_ret
 exact ⟨rfl, _, rfl⟩
set_option maxRecDepth 100000 in
set_option maxHeartbeats 1000000 in
theorem job_leaf1 (b o : Nat) (x : Job) (w : World) (hx : JobAt w b o x) (e0 : decide (0 <= x.prio) = true) (e1 : decide (x.prio <= 255) = false) : Calls Tryz.prog 135 #[.pointer (some ⟨b, o, none⟩)] w fun e w' => e = .returned (.bool false) /\ ∃ m, w' = w.drewN m := by
 obtain ⟨y0, y1, y2, y3, y4, y5, y6⟩ := hx
 unfold IntAt at y0 y1 y2 y3 y4 y5 y6
 go_enter Tryz.func135, Tryz.ntmps135
 go_wp2_with fail
 simp only [List.append_eq, List.cons_append, List.nil_append]
 go_quiet (first | (go_at_call 35; exact Calls.quiet_of_same (clock_any _ _)) | (go_at_call 101; exact Calls.quiet_of_same (demandMay_any _ _)))
 go_wp2_with fail
 go_ret
 exact ⟨rfl, _, rfl⟩
set_option maxRecDepth 100000 in
set_option maxHeartbeats 1000000 in
theorem job_leaf10 (b o : Nat) (x : Job) (w : World) (hx : JobAt w b o x) (e0 : decide (0 <= x.prio) = true) (e1 : decide (x.prio <= 255) = true) (e2 : decide (0 <= x.release /\ x.release <= 1099511627776) = true) (e3 : decide (x.release < x.deadline) = true) (e4 : decide (1 <= x.demand /\ x.demand <= 65535) = true) (e5 : decide (0 <= x.used) = true) (e6 : decide (x.used < x.demand) = true) (e7 : decide (0 <= x.task) = true) (e8 : decide (x.task < 6) = true) (e9 : decide (0 <= x.seq) = true) : Calls Tryz.prog 135 #[.pointer (some ⟨b, o, none⟩)] w fun e w' => e = .returned (.bool true) /\ ∃ m, w' = w.drewN m := by
 obtain ⟨y0, y1, y2, y3, y4, y5, y6⟩ := hx
 unfold IntAt at y0 y1 y2 y3 y4 y5 y6
 go_enter Tryz.func135, Tryz.ntmps135
 go_wp2_with fail
 simp only [List.append_eq, List.cons_append, List.nil_append]
 go_quiet (first | (go_at_call 35; exact Calls.quiet_of_same (clock_any _ _)) | (go_at_call 101; exact Calls.quiet_of_same (demandMay_any _ _)))
 go_wp2_with fail
 go_ret
 exact ⟨rfl, _, rfl⟩
end Go.Proofs.YtooeeiiiflfckaaGreat
