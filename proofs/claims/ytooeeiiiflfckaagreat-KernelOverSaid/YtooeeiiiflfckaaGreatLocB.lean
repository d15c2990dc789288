/- Several texts of this claim as one. -/
import Derived.Test.YtooeeiiiflfckaaGreatLocA
import Derived.Test.YtooeeiiiflfckaaGreatMtr
import Derived.Test.YtooeeiiiflfckaaGreatChkA
import Derived.Test.YtooeeiiiflfckaaGreatLibA
/- package jobs: Run, Fail, Jobs, Ready (printed by genloc5.py). -/
set_option linter.unusedVariables false
set_option linter.unusedSimpArgs false
namespace Go.Proofs.YtooeeiiiflfckaaGreat
open Go.RowKit
def evIf (c : Bool) (e : Event) : List Event := if c = true then [e] else []
def LSt.hd (S : LSt) : Job := S.js.headD ⟨0, 0, 0, 0, 0, 0, 0⟩
def runV (S : LSt) : Verdict := if S.js.isEmpty = true then ⟨false, false, false⟩ else chV S.hd (S.run S.hd.task.toNat).t S.lvl
def runS (S : LSt) : LSt := if S.js.isEmpty = true then S else if ((runV S).done || (runV S).kill) = true then { S with js := S.js.tail } else { S with js := chJ S.hd :: S.js.tail }
def runEvK (S : LSt) : Nat -> List Event
 | 0 => []
 | 1 => evIf (runV S).over (evt S 4 S.hd.task (S.hd.used + 1))
 | 2 => evIf (runV S).over (evt S 4 S.hd.task (S.hd.used + 1)) ++ evIf (runV S).done (evt S 5 S.hd.task (S.hd.used + 1))
 | _ => evIf (runV S).over (evt S 4 S.hd.task (S.hd.used + 1)) ++ evIf (runV S).done (evt S 5 S.hd.task (S.hd.used + 1)) ++ evIf (runV S).kill (evt S 6 S.hd.task (S.hd.used + 1))
def runEv (S : LSt) : List Event := if S.js.isEmpty = true then [] else runEvK S 3
def runE (S : LSt) : Int := if S.js.isEmpty = true then 1401 else 0
def failS (S : LSt) : LSt := { S with js := S.js.tail }
def failEv (S : LSt) : List Event := if S.js.isEmpty = true then [] else [evt S 7 S.hd.task S.hd.used]
theorem evIf_le (c : Bool) (e : Event) : (evIf c e).length <= 1 := by unfold evIf; split <;> simp
theorem runEvK_le (S : LSt) (k : Nat) : (runEvK S k).length <= 3 := by
 have h1 := evIf_le (runV S).over (evt S 4 S.hd.task (S.hd.used + 1))
 have h2 := evIf_le (runV S).done (evt S 5 S.hd.task (S.hd.used + 1))
 have h3 := evIf_le (runV S).kill (evt S 6 S.hd.task (S.hd.used + 1))
 match k with
 | 0 => simp [runEvK]
 | 1 => simp only [runEvK]; omega
 | 2 => simp only [runEvK, List.length_append]; omega
 | k + 3 => simp only [runEvK, List.length_append]; omega
theorem jobsMay_tail {j : Job} {js : List Job} (h : jobsMay (j :: js) = true) : jobsMay js = true := by
 obtain ⟨h1, h2⟩ := (jobsMay_iff _).1 h
 refine (jobsMay_iff _).2 ⟨fun i hi => ?_, by simp at h2; omega⟩
 have := h1 (i + 1) (by simpa using hi)
 unfold okAt at this |-
 cases i with
 | zero => simp at this |-; first | exact this | exact this.1 | (simp_all)
 | succ i => simpa using this
theorem jobsMay_head {j j' : Job} {js : List Job} (h : jobsMay (j :: js) = true) (h' : jobMay j' = true) (e1 : j'.prio = j.prio) (e2 : j'.release = j.release) (e3 : j'.task = j.task) : jobsMay (j' :: js) = true := by
 obtain ⟨h1, h2⟩ := (jobsMay_iff _).1 h
 refine (jobsMay_iff _).2 ⟨fun i hi => ?_, by simpa using h2⟩
 have := h1 i (by simpa using hi)
 unfold okAt at this |-
 match i with
 | 0 => simpa using h'
 | 1 => simpa [ahead, e1, e2, e3] using this
 | i + 2 => simpa using this
theorem chJ_may {j : Job} {t : Task} {l : Int} (h : jobMay j = true) (hd : (chV j t l).done = false) : jobMay (chJ j) = true := by
 unfold jobMay at h |-
 unfold chV at hd
 simp only [decide_eq_true_eq, beq_eq_false_iff_ne] at h hd |-
 unfold chJ
 simp only
 omega
theorem runS_wf {S : LSt} {m : Int} (h : LWf S m) : LWf (runS S) m := by
 unfold runS
 cases hjs : S.js with
 | nil => simpa [hjs] using h
 | cons j rest =>
  simp only [List.isEmpty_cons, Bool.false_eq_true, if_false, List.tail_cons]
  have hm := h.js
  rw [hjs] at hm
  split
  ·exact ⟨h.idx, h.lvl, h.rs, h.len, jobsMay_tail hm, fun x hx => h.jt x (by rw [hjs]; exact List.mem_cons_of_mem _ hx)⟩
  ·rename_i hn
   have hh : S.hd = j := by unfold LSt.hd; rw [hjs]; rfl
   have hv : runV S = chV j (S.run j.task.toNat).t S.lvl := by unfold runV; rw [hh, hjs]; rfl
   simp only [Bool.not_eq_true, Bool.or_eq_false_iff] at hn
   rw [hv] at hn
   have hj0 : jobMay j = true := by have := ((jobsMay_iff _).1 hm).1 0 (by simp); unfold okAt at this; simpa using this
   refine ⟨h.idx, h.lvl, h.rs, h.len, ?_, fun x hx => ?_⟩
   ·simp only [hh]
    exact jobsMay_head hm (chJ_may hj0 hn.1) rfl rfl rfl
   ·simp only [hh, List.mem_cons] at hx
    rcases hx with rfl | hx
    ·exact h.jt j (by rw [hjs]; simp)
    ·exact h.jt x (by rw [hjs]; exact List.mem_cons_of_mem _ hx)
theorem failS_wf {S : LSt} {m : Int} (h : LWf S m) : LWf (failS S) m := by
 unfold failS
 cases hjs : S.js with
 | nil =>
  refine ⟨h.idx, h.lvl, h.rs, h.len, ?_, fun x hx => by simp at hx⟩
  have := h.js
  rw [hjs] at this
  simpa using this
 | cons j rest =>
  have hm := h.js
  rw [hjs] at hm
  exact ⟨h.idx, h.lvl, h.rs, h.len, jobsMay_tail hm, fun x hx => h.jt x (by rw [hjs]; exact List.mem_cons_of_mem _ hx)⟩
theorem JobsV.tail {w : World} {b off n cap : Nat} {x : Job} {r : List Job} (h : JobsV w (.slice (some ⟨b, off, none⟩) n cap) (x :: r)) (a : Addr) (ha : r ≠ [] -> a = ⟨b, off + 7, none⟩) : JobsV w (.slice (some a) r.length (cap - 1)) r := by
 obtain ⟨a', c, e, h1, h2, h3, h4⟩ := h
 injection e with e1 e2 e3
 subst e1; subst e2; subst e3
 obtain ⟨b', off', e, hc⟩ := h4 (by simp)
 injection e with e
 injection e with e1 e2
 subst e1; subst e2
 simp only [List.length_cons] at h1 h2
 refine ⟨_, _, rfl, by omega, by omega, by omega, fun hr => ⟨b, off + 7, by rw [ha hr], fun k hk => ?_⟩⟩
 have := hc (k + 1) (by simp; omega)
 simp only [List.getElem_cons_succ] at this
 have e : off + (k + 1) * 7 = off + 7 + k * 7 := by omega
 rw [e] at this
 exact this
theorem JobsV.wrHead {w w' : World} {b off n cap : Nat} {x y : Job} {r : List Job} (h : JobsV w (.slice (some ⟨b, off, none⟩) n cap) (x :: r)) (hy : JobAt w' b off y) (hk : ∀ k v, off + 7 <= k -> w.cell? ⟨b, k, none⟩ = some v -> w'.cell? ⟨b, k, none⟩ = some v) : JobsV w' (.slice (some ⟨b, off, none⟩) n cap) (y :: r) := by
 obtain ⟨a', c, e, h1, h2, h3, h4⟩ := h
 injection e with e1 e2 e3
 subst e1; subst e2; subst e3
 obtain ⟨b', off', e, hc⟩ := h4 (by simp)
 injection e with e
 injection e with e1 e2
 subst e1; subst e2
 refine ⟨_, _, rfl, by simpa using h1, by simpa using h2, h3, fun _ => ⟨b, off, rfl, fun k hk' => ?_⟩⟩
 cases k with
 | zero => simpa using hy
 | succ k =>
  have := hc (k + 1) (by simpa using hk')
  simp only [List.getElem_cons_succ] at this |-
  obtain ⟨q0, q1, q2, q3, q4, q5, q6⟩ := this
  exact ⟨hk _ _ (by omega) q0, hk _ _ (by omega) q1, hk _ _ (by omega) q2, hk _ _ (by omega) q3, hk _ _ (by omega) q4, hk _ _ (by omega) q5, hk _ _ (by omega) q6⟩
theorem index3 (a b c : Bool) (W : World) : Sem.run Tryz.prog (Instr.index 262 (.agg #[.bool a, .int .i64 4, .bool b, .int .i64 5, .bool c, .int .i64 6]) (.int .i64 0)) W = .ok (.agg #[.bool a, .int .i64 4]) W /\ Sem.run Tryz.prog (Instr.index 262 (.agg #[.bool a, .int .i64 4, .bool b, .int .i64 5, .bool c, .int .i64 6]) (.int .i64 1)) W = .ok (.agg #[.bool b, .int .i64 5]) W /\ Sem.run Tryz.prog (Instr.index 262 (.agg #[.bool a, .int .i64 4, .bool b, .int .i64 5, .bool c, .int .i64 6]) (.int .i64 2)) W = .ok (.agg #[.bool c, .int .i64 6]) W :=
 ⟨by kernel_rfl, by kernel_rfl, by kernel_rfl⟩
def putJ (W : World) (g off : Nat) (x : Job) : World := ((((((W.setCell ⟨g, off, none⟩ (.int .i64 x.task)).setCell ⟨g, off + 1, none⟩ (.int .i64 x.seq)).setCell ⟨g, off + 2, none⟩ (.int .i64 x.prio)).setCell ⟨g, off + 3, none⟩ (.int .i64 x.release)).setCell ⟨g, off + 4, none⟩ (.int .i64 x.deadline)).setCell ⟨g, off + 5, none⟩ (.int .i64 x.demand)).setCell ⟨g, off + 6, none⟩ (.int .i64 x.used)
theorem putJ_grown (W : World) (g off : Nat) (x : Job) : W.grownBy (putJ W g off x) (some g) :=
 grown_trans (grown_trans (grown_trans (grown_trans (grown_trans (grown_trans (set_grown _ _ _ _) (set_grown _ _ _ _)) (set_grown _ _ _ _)) (set_grown _ _ _ _)) (set_grown _ _ _ _)) (set_grown _ _ _ _)) (set_grown _ _ _ _)
theorem putJ_at {W : World} {g off : Nat} {cs : Array Value} {t : TypeId} (h : W.heap[g]? = some (.cells cs t (0, 0))) (x : Job) : (putJ W g off x).heap[g]? = some (.cells (((((((cs.setIfInBounds off (.int .i64 x.task)).setIfInBounds (off + 1) (.int .i64 x.seq)).setIfInBounds (off + 2) (.int .i64 x.prio)).setIfInBounds (off + 3) (.int .i64 x.release)).setIfInBounds (off + 4) (.int .i64 x.deadline)).setIfInBounds (off + 5) (.int .i64 x.demand)).setIfInBounds (off + 6) (.int .i64 x.used)) t (0, 0)) :=
 blk_set (blk_set (blk_set (blk_set (blk_set (blk_set (blk_set h off _) (off + 1) _) (off + 2) _) (off + 3) _) (off + 4) _) (off + 5) _) (off + 6) _
theorem putJ_job {W : World} {g off : Nat} {cs : Array Value} {t : TypeId} (h : W.heap[g]? = some (.cells cs t (0, 0))) (hs : off + 6 < cs.size) (x : Job) : JobAt (putJ W g off x) g off x := by
 have hp := putJ_at (off := off) h x
 refine ⟨BlockIs.of hp _ _ ?_, BlockIs.of hp _ _ ?_, BlockIs.of hp _ _ ?_, BlockIs.of hp _ _ ?_, BlockIs.of hp _ _ ?_, BlockIs.of hp _ _ ?_, BlockIs.of hp _ _ ?_⟩ <;>
  simp only [Array.getElem?_setIfInBounds, Array.size_setIfInBounds] <;> simp <;> omega
theorem putJ_far {W : World} {g off : Nat} {cs : Array Value} {t : TypeId} (h : W.heap[g]? = some (.cells cs t (0, 0))) (x : Job) (k : Nat) (v : Value) (hk : off + 7 <= k) (hv : W.cell? ⟨g, k, none⟩ = some v) : (putJ W g off x).cell? ⟨g, k, none⟩ = some v := by
 have hp := putJ_at (off := off) h x
 refine BlockIs.of hp _ _ ?_
 unfold World.cell? at hv
 rw [h] at hv
 simp only [Array.getElem?_setIfInBounds_ne, show off ≠ k by omega, show off + 1 ≠ k by omega, show off + 2 ≠ k by omega, show off + 3 ≠ k by omega, show off + 4 ≠ k by omega, show off + 5 ≠ k by omega, show off + 6 ≠ k by omega, ne_eq, not_false_eq_true]
 simpa using hv
theorem cell_size {W : World} {g : Nat} {cs : Array Value} {t : TypeId} (h : W.heap[g]? = some (.cells cs t (0, 0))) {k : Nat} {v : Value} (hv : W.cell? ⟨g, k, none⟩ = some v) : k < cs.size := by
 unfold World.cell? at hv
 rw [h] at hv
 simp only at hv
 exact (Array.getElem?_eq_some_iff.1 (by simpa using hv)).1
set_option maxRecDepth 100000 in
set_option maxHeartbeats 1000000 in
theorem ready_any (b lo : Nat) (ps : List Nat) (F : Nat -> Prop) (S : LSt) (w : World) (h : LocAt w b lo ps F S) :
  Calls Tryz.prog 65 #[.pointer (some ⟨b, 0, none⟩)] w fun e w' => e = .returned (.bool (decide (0 < S.js.length))) /\ w' = w := by
 obtain ⟨tv, jv, c1, -, -, c4, -⟩ := h.cell
 obtain ⟨ja, jc, rfl, -⟩ := c4
 have x3 := BlockIs.of c1 3 _ rfl
 obtain ⟨n, hn⟩ : ∃ n, n = S.js.length := ⟨_, rfl⟩
 rw [<- hn] at x3 |-
 clear h c1 hn
 go_enter Tryz.func65, Tryz.ntmps65
 go_wp2_with fail
 go_ret
 exact ⟨ret_bool (by by_cases h : 0 < n <;> simp [h]), rfl⟩
set_option maxRecDepth 100000 in
set_option maxHeartbeats 1000000 in
theorem jobs_any (b lo : Nat) (ps : List Nat) (F : Nat -> Prop) (S : LSt) (w : World) (h : LocAt w b lo ps F S) :
  Calls Tryz.prog 48 #[.pointer (some ⟨b, 0, none⟩)] w fun e w' => ∃ v, e = .returned v /\ JobRow w' w.heap.size v S.js /\ Below w.heap.size w w' := by
 obtain ⟨tv, jv, c1, -, -, c4, -⟩ := h.cell
 have HJ := Lib.hid c4
 obtain ⟨ja, jc, rfl, -⟩ := id c4
 have x3 := BlockIs.of c1 3 _ rfl
 clear h c1 c4
 go_enter Tryz.func48, Tryz.ntmps48
 go_wp2_with fail
 refine (cloneJob_any _ S.js w HJ.out).mono ?_
 rintro e w' ⟨v, rfl, hr, hb⟩
 have HR := Lib.hid (And.intro hr hb)
 obtain ⟨va, vc, rfl⟩ := own_shape hr
 clear hr hb
 go_wp2_with fail
 go_ret
 exact ⟨_, rfl, HR.out⟩
def RunV (b g off tg p jn jc pn tc : Nat) (lvl : Int) (r : TRun) (j : Job) (a : Nat) (v : Value) : Prop := match a with
 | 0 => v = .pointer (some ⟨b, 0, none⟩)
 | 1 => v = .pointer (some ⟨b, 0, none⟩)
 | 2 => v = .pointer (some ⟨b, 3, none⟩)
 | 3 => v = .slice (some ⟨g, off, none⟩) jn jc
 | 4 => v = .pointer (some ⟨g, off, none⟩)
 | 5 => v = .agg #[.int .i64 j.task, .int .i64 j.seq, .int .i64 j.prio, .int .i64 j.release, .int .i64 j.deadline, .int .i64 j.demand, .int .i64 j.used]
 | 6 => v = .pointer (some ⟨b, 0, none⟩)
 | 7 => v = .pointer (some ⟨b, 0, none⟩)
 | 8 => v = .pointer (some ⟨b, 2, none⟩)
 | 9 => v = .slice (some ⟨tg, 0, none⟩) pn tc
 | 10 => v = .pointer (some ⟨b, 0, none⟩)
 | 11 => v = .pointer (some ⟨b, 0, none⟩)
 | 12 => v = .pointer (some ⟨b, 3, none⟩)
 | 13 => v = .slice (some ⟨g, off, none⟩) jn jc
 | 14 => v = .pointer (some ⟨g, off, none⟩)
 | 15 => v = .pointer (some ⟨g, off, none⟩)
 | 16 => v = .int .i64 j.task
 | 17 => v = .pointer (some ⟨tg, j.task.toNat, none⟩)
 | 18 => v = .pointer (some ⟨p, 0, none⟩)
 | 19 => v = .pointer (some ⟨p, 0, none⟩)
 | 20 => v = .pointer (some ⟨p, 0, none⟩)
 | 21 => v = .agg #[.int .i64 r.t.kind, .int .i64 r.t.period, .int .i64 r.t.deadline, .int .i64 r.t.clow, .int .i64 r.t.chigh, .int .i64 r.t.prio]
 | 22 => v = .pointer (some ⟨b, 0, none⟩)
 | 23 => v = .pointer (some ⟨b, 0, none⟩)
 | 24 => v = .pointer (some ⟨b, 1, none⟩)
 | 25 => v = .int .i64 lvl
 | _ => True
set_option maxRecDepth 100000 in
set_option maxHeartbeats 16000000 in
theorem run_any (b lo : Nat) (ps : List Nat) (F : Nat -> Prop) (S : LSt) (m : Int) (w : World) (h : LocAt w b lo ps F S) (hw : LWf S m) :
  Calls Tryz.prog 118 #[.pointer (some ⟨b, 0, none⟩)] w fun e w' => ∃ a n c, e = .returned (.tuple #[vdV (runV S), .slice a n c, .int .i64 (runE S)]) /\ ∃ F', LocAt w' b lo ps F' (runS S) /\ EvRow w' w.heap.size (.slice a n c) (runEv S) /\ Keeps F w w' /\ (∀ k, F k -> F' k) /\ (∀ k, F' k -> F k ∨ w.heap.size <= k) := by
 have HL := Lib.hid h
 obtain ⟨tv, jv, c1, -, -, c4, c5⟩ := id h.cell
 cases hjs : S.js with
 | nil =>
  rw [hjs] at c4
  obtain ⟨ja, jc, rfl, -⟩ := c4
  have x3 := BlockIs.of c1 3 _ rfl
  simp only [List.length_nil] at x3
  clear h c1 c5
  have HJS := Lib.hid hjs
  clear hjs
  obtain ⟨wa, ga, hw_wa, hg_ga, hb_wa, hk_ga, hs_wa⟩ := alloc_all w (.cells #[.bool false, .bool false, .bool false] 230)
  subst hg_ga
  have HLA := Lib.hid (HL.out.keep hb_wa)
  have HBA := Lib.hid hb_wa
  replace x3 := Ext.below hb_wa _ _ x3
  have q0 := BlockIs.of hk_ga 0 _ rfl
  have q1 := BlockIs.of hk_ga 1 _ rfl
  have q2 := BlockIs.of hk_ga 2 _ rfl
  obtain ⟨wz, hw_wz⟩ : ∃ wz, wz = put3 wa w.heap.size (.bool false) (.bool false) (.bool false) := ⟨_, rfl⟩
  have hk_wz := put3_at hk_ga (.bool false) (.bool false) (.bool false)
  have hg_wz := put3_grown wa w.heap.size (.bool false) (.bool false) (.bool false)
  rw [<- hw_wz] at hk_wz hg_wz
  unfold put3 at hw_wz
  have o_wz_0 := BlockIs.of hk_ga 0 _ rfl
  have o_wz_1 := BlockIs.of hk_ga 1 _ rfl
  have o_wz_2 := BlockIs.of hk_ga 2 _ rfl
  have f_wz := thaw hk_ga
  have e_wz_0 := BlockIs.of hk_wz 0 _ rfl
  have e_wz_1 := BlockIs.of hk_wz 1 _ rfl
  have e_wz_2 := BlockIs.of hk_wz 2 _ rfl
  have HLZ := Lib.hid (HLA.out.far (fun k hf => hg_wz.block k (HLA.out.lt hf) (fun q => by injection q with q; have := HL.out.lt hf; omega)))
  have HBZ := Lib.hid (show Below w.heap.size w wz from bput HBA.out hg_wz (by omega) (Nat.le_refl _))
  clear hb_wa hk_ga hg_wz hk_wz q0 q1 q2
  go_enter Tryz.func118, Tryz.ntmps118
  go_wp2_with (first | (rw [<- hw_wa]; clear hw_wa) | (rw [<- hw_wz]; clear hw_wz))
  refine bodyPost_ret (v := .tuple #[.agg #[.bool false, .bool false, .bool false], .slice none 0 0, .int .i64 1401]) (by simp [results, Tryz.results118, go_sem, e_wz_0, e_wz_1, e_wz_2]) rfl ?_
  refine ⟨none, 0, 0, ?_, F, ?_, ?_, Keeps.of_below HBZ.out, fun k hk => hk, fun k hk => .inl hk⟩
  ·unfold runV runE
   rw [HJS.out]
   rfl
  ·unfold runS
   rw [HJS.out]
   exact HLZ.out
  ·unfold runEv
   rw [HJS.out]
   exact World.ownsRow_nil _ _ _ _
 | cons j rest =>
  rw [hjs] at c4
  have HJV := Lib.hid c4
  obtain ⟨ja, jc, hjv, hz1, hz2, hz3, hz4⟩ := c4
  obtain ⟨g, off, rfl, hcell⟩ := hz4 (by simp)
  obtain ⟨jn, hjn⟩ : ∃ jn, jn = (j :: rest).length := ⟨_, rfl⟩
  rw [<- hjn] at hjv hz2
  subst hjv
  have HJ0 := Lib.hid (show JobAt w g off j by have := hcell 0 (by simp); simpa using this)
  have HGF := Lib.hid (c5 ⟨g, off, none⟩ jn jc rfl)
  have HJN := Lib.hid (show jn = rest.length + 1 by rw [hjn]; rfl)
  have HCP := Lib.hid (And.intro hz1 (And.intro hz2 hz3))
  have HJS := Lib.hid hjs
  have d0 : ((jn : Int) == 0) = false := by rw [beq_eq_false_iff_ne, hjn]; simp only [List.length_cons]; omega
  have d1 : (0 : Int) < (jn : Int) := by rw [hjn]; simp only [List.length_cons]; omega
  have d2 : (1 : Int) <= (jn : Int) := by omega
  have d4 : 0 < jn := by omega
  have d3 : (jn : Int) <= (jc : Int) := by omega
  have hjt := hw.jt j (by rw [hjs]; simp)
  obtain ⟨k, hk⟩ : ∃ k : Nat, j.task = k := ⟨j.task.toNat, by omega⟩
  have hks : k < S.rs.length := by omega
  have hkp : k < ps.length := by rw [h.len]; exact hks
  have hkp' : j.task < (ps.length : Int) := by omega
  have hk0 : (0 : Int) <= j.task := by omega
  obtain ⟨tg, tc, jv', c1', c2, -, -⟩ := h.task (by omega)
  rw [c1'] at c1
  injection c1 with c1
  injection c1 with c1
  have e1 := congrArg (fun q => q[3]?) c1
  simp only [List.getElem?_toArray, List.getElem?_cons_succ, List.getElem?_cons_zero, Option.some.injEq] at e1
  rw [e1] at c1'
  clear c1 e1
  obtain ⟨p, hp⟩ : ∃ p, p = ps[k] := ⟨_, rfl⟩
  obtain ⟨r, hr⟩ : ∃ r, r = S.run k := ⟨_, rfl⟩
  have hrw := hw.rs _ (LSt.run_mem hks)
  rw [<- hr] at hrw
  obtain ⟨pv, hkr, -, -⟩ := h.runs k hkp hks
  rw [<- LSt.run_at hks, <- hr, <- hp] at hkr
  unfold runCells at hkr
  obtain ⟨vv, hvv⟩ : ∃ vv, vv = chV j r.t S.lvl := ⟨_, rfl⟩
  obtain ⟨vo, hvo⟩ : ∃ vo, vo = vv.over := ⟨_, rfl⟩
  obtain ⟨vd, hvd⟩ : ∃ vd, vd = vv.done := ⟨_, rfl⟩
  obtain ⟨vk, hvk⟩ : ∃ vk, vk = vv.kill := ⟨_, rfl⟩
  have hvV : vdV (chV j r.t S.lvl) = .agg #[.bool vo, .bool vd, .bool vk] := by rw [<- hvv, hvo, hvd, hvk]
  have HVV := Lib.hid hvV
  have hh : S.hd = j := by unfold LSt.hd; rw [hjs]; rfl
  have hrv : runV S = ⟨vo, vd, vk⟩ := by
   unfold runV
   rw [hh, hjs, show j.task.toNat = k by omega, <- hr]
   simp only [List.isEmpty_cons, Bool.false_eq_true, if_false]
   rw [<- hvv, hvo, hvd, hvk]
  have HRV := Lib.hid hrv
  have HHD := Lib.hid hh
  have HTK := Lib.hid hk
  have hjm0 := hw.js
  rw [hjs] at hjm0
  have HJM := Lib.hid (show jobMay j = true by have := ((jobsMay_iff _).1 hjm0).1 0 (by simp); unfold okAt at this; simpa using this)
  have HTM := Lib.hid (pairMay_task hrw.1).1
  have HLV := Lib.hid hw.lvl
  have hju : 0 <= j.used /\ j.used <= 65535 := by have := HJM.out; unfold jobMay at this; simp only [decide_eq_true_eq] at this; omega
  obtain ⟨lvl, hlvl⟩ : ∃ lvl, lvl = S.lvl := ⟨_, rfl⟩
  obtain ⟨pn, hpn⟩ : ∃ pn, pn = ps.length := ⟨_, rfl⟩
  rw [<- hlvl] at HLV HVV c1'
  rw [<- hpn] at hkp' c1'
  obtain ⟨wa, ga, hw_wa, hg_ga, hb_wa, hk_ga, hs_wa⟩ := alloc_all w (.cells #[.bool false, .bool false, .bool false] 230)
  subst hg_ga
  have HKB := Lib.hid (keep_at c1' hb_wa)
  have HKP := Lib.hid (keep_at hkr hb_wa)
  have HXK := Lib.hid (show wa.cell? ⟨tg, j.task.toNat, none⟩ = some (.pointer (some ⟨p, 0, none⟩)) by rw [hp, show j.task.toNat = k by omega]; exact Ext.below hb_wa _ _ (c2 k hkp))
  have HJ0 := Lib.hid (HJ0.out.ext (Ext.below hb_wa))
  have HLA := Lib.hid (HL.out.keep hb_wa)
  have HJV := Lib.hid (HJV.out.ext (Ext.below hb_wa))
  have HKA := Lib.hid hk_ga
  have HBA := Lib.hid hb_wa
  have HGA := Lib.hid (show w.heap.size <= w.heap.size by omega)
  have HLL := Lib.hid (show S.idx = S.idx /\ lvl = S.lvl /\ pn = ps.length from ⟨rfl, hlvl, hpn⟩)
  have x3 := BlockIs.of HKB.out 3 _ rfl
  clear h hw hjs hjt hz1 hz2 hz3 hz4 hcell hjn c2 c5 hp hr hrw hkr hvv hvo hvd hvk hvV hh hrv hk hjm0 hlvl hpn c1' hb_wa hk_ga hks hkp
  go_enter Tryz.func118, Tryz.ntmps118
  go_wp2_with (rw [<- hw_wa]; clear hw_wa)
  clear hs_wa
  clear x3
  refine region_inv0 rfl (by kernel_rfl) (CInv wa (RunV b g off tg p jn jc pn tc lvl r j) 26 (fun v _ => v = .tuple #[.agg #[.int .i64 j.task, .int .i64 j.seq, .int .i64 j.prio, .int .i64 j.release, .int .i64 j.deadline, .int .i64 j.demand, .int .i64 (j.used + 1)], .agg #[.bool vo, .bool vd, .bool vk], .int .i64 0]) [(27, fun v => v), (28, tupAt 0), (29, tupAt 1), (30, tupAt 2), (35, tupAt 2)] [⟨31, 33, 124, #[.int .i64 0, .int .i64 0, .int .i64 0, .int .i64 0, .int .i64 0, .int .i64 0, .int .i64 0], (fun v => aggOf (tupAt 0 v))⟩, ⟨32, 34, 230, #[.bool false, .bool false, .bool false], (fun v => aggOf (tupAt 1 v))⟩]) (fun vs h0 => ⟨(fun i h => by cases h), below_drew (Below.refl _ _), (fun h => by cases h), (fun _ _ h => by cases h), (fun _ _ h => by cases h), (fun _ _ _ _ _ h => by cases h)⟩) ?_ ?_
  ·simp (config := { maxSteps := 4000000 }) only [List.map, putAll, Act.put, InvE, List.setIfInBounds_toArray, List.set_cons_succ, List.set_cons_zero, Nat.reduceAdd]
   refine ⟨?_, ?_, ?_, ?_, ?_, ?_, ?_, ?_, ?_, ?_, ?_, ?_, ?_, ?_, ?_, ?_, ?_, ?_, ?_, ?_, ?_, ?_, ?_, ?_, ?_, ?_, ?_, ?_, ?_, ?_, ?_, ?_, ?_, ?_, ?_, ?_, trivial⟩
   all_goals
    intro L vs W hI hi hn hcl K hK
    rw [if_pos (by simp [Region.wanted])]
   ·have HK := Lib.hid (fun (v : Value) (h : v = .pointer (some ⟨b, 0, none⟩)) => hK v W (hI.pure (by decide) (by simp) h (by simp)))
    clear hK hI hn hcl hi
    go_simp
    exact HK.out _ rfl
   ·have r0 : vs 0 = _ := hI.pv 0 (hn 0 rfl)
    simp only [r0] at hK |-
    have HK := Lib.hid (fun (v : Value) (h : v = .pointer (some ⟨b, 0, none⟩)) => hK v W (hI.pure (by decide) (by simp) h (by simp)))
    clear hK hI hn hcl hi
    go_simp
    exact HK.out _ rfl
   ·have r1 : vs 1 = _ := hI.pv 1 (hn 1 rfl)
    simp only [r1] at hK |-
    have HK := Lib.hid (fun (v : Value) (h : v = .pointer (some ⟨b, 3, none⟩)) => hK v W (hI.pure (by decide) (by simp) h (by simp)))
    clear hK hI hn hcl hi
    go_simp
    exact HK.out _ rfl
   ·have r2 : vs 2 = _ := hI.pv 2 (hn 2 rfl)
    have hk := keep_at HKB.out hI.below
    have x3 := BlockIs.of hk 3 _ rfl
    clear hk
    simp only [r2] at hK |-
    have HK := Lib.hid (fun (v : Value) (h : v = .slice (some ⟨g, off, none⟩) jn jc) => hK v W (hI.pure (by decide) (by simp) h (by simp)))
    clear hK hI hn hcl hi
    go_simp
    exact HK.out _ rfl
   ·have r3 : vs 3 = _ := hI.pv 3 (hn 3 rfl)
    simp only [r3] at hK |-
    have HK := Lib.hid (fun (v : Value) (h : v = .pointer (some ⟨g, off, none⟩)) => hK v W (hI.pure (by decide) (by simp) h (by simp)))
    clear hK hI hn hcl hi
    go_simp
    exact HK.out _ rfl
   ·have r4 : vs 4 = _ := hI.pv 4 (hn 4 rfl)
    have hx := HJ0.out.ext (Ext.below hI.below)
    obtain ⟨y0, y1, y2, y3, y4, y5, y6⟩ := hx
    unfold IntAt at y0 y1 y2 y3 y4 y5 y6
    simp only [r4] at hK |-
    have HK := Lib.hid (fun (v : Value) (h : v = .agg #[.int .i64 j.task, .int .i64 j.seq, .int .i64 j.prio, .int .i64 j.release, .int .i64 j.deadline, .int .i64 j.demand, .int .i64 j.used]) => hK v W (hI.pure (by decide) (by simp) h (by simp)))
    clear hK hI hn hcl hi
    go_simp
    exact HK.out _ rfl
   ·have HK := Lib.hid (fun (v : Value) (h : v = .pointer (some ⟨b, 0, none⟩)) => hK v W (hI.pure (by decide) (by simp) h (by simp)))
    clear hK hI hn hcl hi
    go_simp
    exact HK.out _ rfl
   ·have r6 : vs 6 = _ := hI.pv 6 (hn 6 rfl)
    simp only [r6] at hK |-
    have HK := Lib.hid (fun (v : Value) (h : v = .pointer (some ⟨b, 0, none⟩)) => hK v W (hI.pure (by decide) (by simp) h (by simp)))
    clear hK hI hn hcl hi
    go_simp
    exact HK.out _ rfl
   ·have r7 : vs 7 = _ := hI.pv 7 (hn 7 rfl)
    simp only [r7] at hK |-
    have HK := Lib.hid (fun (v : Value) (h : v = .pointer (some ⟨b, 2, none⟩)) => hK v W (hI.pure (by decide) (by simp) h (by simp)))
    clear hK hI hn hcl hi
    go_simp
    exact HK.out _ rfl
   ·have r8 : vs 8 = _ := hI.pv 8 (hn 8 rfl)
    have hk := keep_at HKB.out hI.below
    have x2 := BlockIs.of hk 2 _ rfl
    clear hk
    simp only [r8] at hK |-
    have HK := Lib.hid (fun (v : Value) (h : v = .slice (some ⟨tg, 0, none⟩) pn tc) => hK v W (hI.pure (by decide) (by simp) h (by simp)))
    clear hK hI hn hcl hi
    go_simp
    exact HK.out _ rfl
   ·have HK := Lib.hid (fun (v : Value) (h : v = .pointer (some ⟨b, 0, none⟩)) => hK v W (hI.pure (by decide) (by simp) h (by simp)))
    clear hK hI hn hcl hi
    go_simp
    exact HK.out _ rfl
   ·have r10 : vs 10 = _ := hI.pv 10 (hn 10 rfl)
    simp only [r10] at hK |-
    have HK := Lib.hid (fun (v : Value) (h : v = .pointer (some ⟨b, 0, none⟩)) => hK v W (hI.pure (by decide) (by simp) h (by simp)))
    clear hK hI hn hcl hi
    go_simp
    exact HK.out _ rfl
   ·have r11 : vs 11 = _ := hI.pv 11 (hn 11 rfl)
    simp only [r11] at hK |-
    have HK := Lib.hid (fun (v : Value) (h : v = .pointer (some ⟨b, 3, none⟩)) => hK v W (hI.pure (by decide) (by simp) h (by simp)))
    clear hK hI hn hcl hi
    go_simp
    exact HK.out _ rfl
   ·have r12 : vs 12 = _ := hI.pv 12 (hn 12 rfl)
    have hk := keep_at HKB.out hI.below
    have x3 := BlockIs.of hk 3 _ rfl
    clear hk
    simp only [r12] at hK |-
    have HK := Lib.hid (fun (v : Value) (h : v = .slice (some ⟨g, off, none⟩) jn jc) => hK v W (hI.pure (by decide) (by simp) h (by simp)))
    clear hK hI hn hcl hi
    go_simp
    exact HK.out _ rfl
   ·have r13 : vs 13 = _ := hI.pv 13 (hn 13 rfl)
    simp only [r13] at hK |-
    have HK := Lib.hid (fun (v : Value) (h : v = .pointer (some ⟨g, off, none⟩)) => hK v W (hI.pure (by decide) (by simp) h (by simp)))
    clear hK hI hn hcl hi
    go_simp
    exact HK.out _ rfl
   ·have r14 : vs 14 = _ := hI.pv 14 (hn 14 rfl)
    simp only [r14] at hK |-
    have HK := Lib.hid (fun (v : Value) (h : v = .pointer (some ⟨g, off, none⟩)) => hK v W (hI.pure (by decide) (by simp) h (by simp)))
    clear hK hI hn hcl hi
    go_simp
    exact HK.out _ rfl
   ·have r15 : vs 15 = _ := hI.pv 15 (hn 15 rfl)
    have hx := HJ0.out.ext (Ext.below hI.below)
    obtain ⟨y0, -, -, -, -, -, -⟩ := hx
    unfold IntAt at y0
    simp only [r15] at hK |-
    have HK := Lib.hid (fun (v : Value) (h : v = .int .i64 j.task) => hK v W (hI.pure (by decide) (by simp) h (by simp)))
    clear hK hI hn hcl hi
    go_simp
    exact HK.out _ rfl
   ·have r9 : vs 9 = _ := hI.pv 9 (hn 9 rfl)
    have r16 : vs 16 = _ := hI.pv 16 (hn 16 rfl)
    simp only [r9, r16] at hK |-
    have HK := Lib.hid (fun (v : Value) (h : v = .pointer (some ⟨tg, j.task.toNat, none⟩)) => hK v W (hI.pure (by decide) (by simp) h (by simp)))
    clear hK hI hn hcl hi
    go_simp
    exact HK.out _ rfl
   ·have r17 : vs 17 = _ := hI.pv 17 (hn 17 rfl)
    have xk := Ext.below hI.below _ _ HXK.out
    simp only [r17] at hK |-
    have HK := Lib.hid (fun (v : Value) (h : v = .pointer (some ⟨p, 0, none⟩)) => hK v W (hI.pure (by decide) (by simp) h (by simp)))
    clear hK hI hn hcl hi
    go_simp
    exact HK.out _ rfl
   ·have r18 : vs 18 = _ := hI.pv 18 (hn 18 rfl)
    simp only [r18] at hK |-
    have HK := Lib.hid (fun (v : Value) (h : v = .pointer (some ⟨p, 0, none⟩)) => hK v W (hI.pure (by decide) (by simp) h (by simp)))
    clear hK hI hn hcl hi
    go_simp
    exact HK.out _ rfl
   ·have r19 : vs 19 = _ := hI.pv 19 (hn 19 rfl)
    simp only [r19] at hK |-
    have HK := Lib.hid (fun (v : Value) (h : v = .pointer (some ⟨p, 0, none⟩)) => hK v W (hI.pure (by decide) (by simp) h (by simp)))
    clear hK hI hn hcl hi
    go_simp
    exact HK.out _ rfl
   ·have r20 : vs 20 = _ := hI.pv 20 (hn 20 rfl)
    have hk := keep_at HKP.out hI.below
    have z0 := BlockIs.of hk 0 _ rfl
    have z1 := BlockIs.of hk 1 _ rfl
    have z2 := BlockIs.of hk 2 _ rfl
    have z3 := BlockIs.of hk 3 _ rfl
    have z4 := BlockIs.of hk 4 _ rfl
    have z5 := BlockIs.of hk 5 _ rfl
    clear hk
    simp only [r20] at hK |-
    have HK := Lib.hid (fun (v : Value) (h : v = .agg #[.int .i64 r.t.kind, .int .i64 r.t.period, .int .i64 r.t.deadline, .int .i64 r.t.clow, .int .i64 r.t.chigh, .int .i64 r.t.prio]) => hK v W (hI.pure (by decide) (by simp) h (by simp)))
    clear hK hI hn hcl hi
    go_simp
    exact HK.out _ rfl
   ·have HK := Lib.hid (fun (v : Value) (h : v = .pointer (some ⟨b, 0, none⟩)) => hK v W (hI.pure (by decide) (by simp) h (by simp)))
    clear hK hI hn hcl hi
    go_simp
    exact HK.out _ rfl
   ·have r22 : vs 22 = _ := hI.pv 22 (hn 22 rfl)
    simp only [r22] at hK |-
    have HK := Lib.hid (fun (v : Value) (h : v = .pointer (some ⟨b, 0, none⟩)) => hK v W (hI.pure (by decide) (by simp) h (by simp)))
    clear hK hI hn hcl hi
    go_simp
    exact HK.out _ rfl
   ·have r23 : vs 23 = _ := hI.pv 23 (hn 23 rfl)
    simp only [r23] at hK |-
    have HK := Lib.hid (fun (v : Value) (h : v = .pointer (some ⟨b, 1, none⟩)) => hK v W (hI.pure (by decide) (by simp) h (by simp)))
    clear hK hI hn hcl hi
    go_simp
    exact HK.out _ rfl
   ·have r24 : vs 24 = _ := hI.pv 24 (hn 24 rfl)
    have hk := keep_at HKB.out hI.below
    have x1 := BlockIs.of hk 1 _ rfl
    clear hk
    simp only [r24] at hK |-
    have HK := Lib.hid (fun (v : Value) (h : v = .int .i64 lvl) => hK v W (hI.pure (by decide) (by simp) h (by simp)))
    clear hK hI hn hcl hi
    go_simp
    exact HK.out _ rfl
   ·have r5 : vs 5 = _ := hI.pv 5 (hn 5 rfl)
    have r21 : vs 21 = _ := hI.pv 21 (hn 21 rfl)
    have r25 : vs 25 = _ := hI.pv 25 (hn 25 rfl)
    simp only [r5, r21, r25] at hK |-
    have hS0 : L 33 = false := by
     cases h : L 33
     ·rfl
     ·exact absurd (hcl 27 _ rfl (hcl 28 _ rfl (hcl 33 _ rfl h 28 rfl) 27 rfl) 26 rfl) (Bool.eq_false_iff.1 hi)
    have hS1 : L 34 = false := by
     cases h : L 34
     ·rfl
     ·exact absurd (hcl 27 _ rfl (hcl 29 _ rfl (hcl 34 _ rfl h 29 rfl) 27 rfl) 26 rfl) (Bool.eq_false_iff.1 hi)
    have hD27 : L 27 = false := by
     cases h : L 27
     ·rfl
     ·exact absurd (hcl 27 _ rfl h 26 rfl) (Bool.eq_false_iff.1 hi)
    have hD28 : L 28 = false := by
     cases h : L 28
     ·rfl
     ·exact absurd (hcl 27 _ rfl (hcl 28 _ rfl h 27 rfl) 26 rfl) (Bool.eq_false_iff.1 hi)
    have hD29 : L 29 = false := by
     cases h : L 29
     ·rfl
     ·exact absurd (hcl 27 _ rfl (hcl 29 _ rfl h 27 rfl) 26 rfl) (Bool.eq_false_iff.1 hi)
    have hD30 : L 30 = false := by
     cases h : L 30
     ·rfl
     ·exact absurd (hcl 27 _ rfl (hcl 30 _ rfl h 27 rfl) 26 rfl) (Bool.eq_false_iff.1 hi)
    have hD35 : L 35 = false := by
     cases h : L 35
     ·rfl
     ·exact absurd (hcl 27 _ rfl (hcl 30 _ rfl (hcl 35 _ rfl h 30 rfl) 27 rfl) 26 rfl) (Bool.eq_false_iff.1 hi)
    have HX := Lib.hid (And.intro (show ∀ a ∈ ([⟨31, 33, 124, #[.int .i64 0, .int .i64 0, .int .i64 0, .int .i64 0, .int .i64 0, .int .i64 0, .int .i64 0], (fun v => aggOf (tupAt 0 v))⟩, ⟨32, 34, 230, #[.bool false, .bool false, .bool false], (fun v => aggOf (tupAt 1 v))⟩] : List OwnB), a.iA ≠ 26 /\ a.iS ≠ 26 /\ L a.iS = false by simp [hS0, hS1]) (show ∀ d ∈ ([(27, fun v => v), (28, tupAt 0), (29, tupAt 1), (30, tupAt 2), (35, tupAt 2)] : List (Nat × (Value -> Value))), d.1 ≠ 26 /\ L d.1 = false by simp [hD27, hD28, hD29, hD30, hD35]))
    have HK := Lib.hid hK
    have HI := Lib.hid hI
    clear hK hI hn hcl hi hS0 hS1 hD27 hD28 hD29 hD30 hD35
    go_simp
    go_at_call 143
    refine (charge_any j r.t lvl W HJM.out HTM.out HLV.out).mono ?_
    rintro e w' ⟨rfl, hb⟩
    refine HK.out _ w' (HI.out.call hb ?_ trivial HX.out.1 HX.out.2)
    rw [HVV.out]
    rfl
   ·have hC : L 26 = true := (hn 26 rfl)
    obtain eC := hI.res hC
    simp only [eC] at hK |-
    have HK := Lib.hid (fun (v : Value) (h : v = .tuple #[.agg #[.int .i64 j.task, .int .i64 j.seq, .int .i64 j.prio, .int .i64 j.release, .int .i64 j.deadline, .int .i64 j.demand, .int .i64 (j.used + 1)], .agg #[.bool vo, .bool vd, .bool vk], .int .i64 0]) => hK v W (hI.pure (by decide) (by simp) trivial (by simp only [List.mem_cons, List.not_mem_nil, or_false, forall_eq_or_imp, forall_eq]; simp (config := { decide := true }) only [false_implies, forall_const, true_and, and_true, true_implies]; rw [eC]; exact h)))
    clear hK hI hn hcl hi eC hC
    go_simp
    exact HK.out _ rfl
   ·have hC : L 26 = true := (hcl 27 _ rfl (hn 27 rfl) 26 rfl)
    obtain eC := hI.res hC
    have r27 : vs 27 = .tuple #[.agg #[.int .i64 j.task, .int .i64 j.seq, .int .i64 j.prio, .int .i64 j.release, .int .i64 j.deadline, .int .i64 j.demand, .int .i64 (j.used + 1)], .agg #[.bool vo, .bool vd, .bool vk], .int .i64 0] := (hI.dep (27, fun v => v) (by simp) (hn 27 rfl)).trans (by first | (rw [eC]; done) | (rw [eC]; rfl))
    simp only [r27] at hK |-
    have HK := Lib.hid (fun (v : Value) (h : v = .agg #[.int .i64 j.task, .int .i64 j.seq, .int .i64 j.prio, .int .i64 j.release, .int .i64 j.deadline, .int .i64 j.demand, .int .i64 (j.used + 1)]) => hK v W (hI.pure (by decide) (by simp) trivial (by simp only [List.mem_cons, List.not_mem_nil, or_false, forall_eq_or_imp, forall_eq]; simp (config := { decide := true }) only [false_implies, forall_const, true_and, and_true, true_implies]; rw [eC]; exact h)))
    clear hK hI hn hcl hi eC hC
    go_simp
    exact HK.out _ rfl
   ·have hC : L 26 = true := (hcl 27 _ rfl (hn 27 rfl) 26 rfl)
    obtain eC := hI.res hC
    have r27 : vs 27 = .tuple #[.agg #[.int .i64 j.task, .int .i64 j.seq, .int .i64 j.prio, .int .i64 j.release, .int .i64 j.deadline, .int .i64 j.demand, .int .i64 (j.used + 1)], .agg #[.bool vo, .bool vd, .bool vk], .int .i64 0] := (hI.dep (27, fun v => v) (by simp) (hn 27 rfl)).trans (by first | (rw [eC]; done) | (rw [eC]; rfl))
    simp only [r27] at hK |-
    have HK := Lib.hid (fun (v : Value) (h : v = .agg #[.bool vo, .bool vd, .bool vk]) => hK v W (hI.pure (by decide) (by simp) trivial (by simp only [List.mem_cons, List.not_mem_nil, or_false, forall_eq_or_imp, forall_eq]; simp (config := { decide := true }) only [false_implies, forall_const, true_and, and_true, true_implies]; rw [eC]; exact h)))
    clear hK hI hn hcl hi eC hC
    go_simp
    exact HK.out _ rfl
   ·have hC : L 26 = true := (hcl 27 _ rfl (hn 27 rfl) 26 rfl)
    obtain eC := hI.res hC
    have r27 : vs 27 = .tuple #[.agg #[.int .i64 j.task, .int .i64 j.seq, .int .i64 j.prio, .int .i64 j.release, .int .i64 j.deadline, .int .i64 j.demand, .int .i64 (j.used + 1)], .agg #[.bool vo, .bool vd, .bool vk], .int .i64 0] := (hI.dep (27, fun v => v) (by simp) (hn 27 rfl)).trans (by first | (rw [eC]; done) | (rw [eC]; rfl))
    simp only [r27] at hK |-
    have HK := Lib.hid (fun (v : Value) (h : v = .int .i64 0) => hK v W (hI.pure (by decide) (by simp) trivial (by simp only [List.mem_cons, List.not_mem_nil, or_false, forall_eq_or_imp, forall_eq]; simp (config := { decide := true }) only [false_implies, forall_const, true_and, and_true, true_implies]; rw [eC]; exact h)))
    clear hK hI hn hcl hi eC hC
    go_simp
    exact HK.out _ rfl
   ·have hS : L 33 = false := by
     cases h : L 33
     ·rfl
     ·exact absurd (hcl 33 _ rfl h 31 rfl) (Bool.eq_false_iff.1 hi)
    have HK := Lib.hid hK
    have HI := Lib.hid hI
    have HS := Lib.hid hS
    clear hK hI hn hcl hi hS
    go_simp
    exact HK.out _ _ (HI.out.alloc ⟨31, 33, 124, #[.int .i64 0, .int .i64 0, .int .i64 0, .int .i64 0, .int .i64 0, .int .i64 0, .int .i64 0], (fun v => aggOf (tupAt 0 v))⟩ (by simp) (by decide) HS.out (by simp) (by decide) (by simp) trivial (fun v W W' h hb => h))
   ·have hS : L 34 = false := by
     cases h : L 34
     ·rfl
     ·exact absurd (hcl 34 _ rfl h 32 rfl) (Bool.eq_false_iff.1 hi)
    have HK := Lib.hid hK
    have HI := Lib.hid hI
    have HS := Lib.hid hS
    clear hK hI hn hcl hi hS
    go_simp
    exact HK.out _ _ (HI.out.alloc ⟨32, 34, 230, #[.bool false, .bool false, .bool false], (fun v => aggOf (tupAt 1 v))⟩ (by simp) (by decide) HS.out (by simp) (by decide) (by simp) trivial (fun v W W' h hb => h))
   ·have hC : L 26 = true := (hcl 27 _ rfl (hcl 28 _ rfl (hn 28 rfl) 27 rfl) 26 rfl)
    obtain eC := hI.res hC
    have r28 : vs 28 = .agg #[.int .i64 j.task, .int .i64 j.seq, .int .i64 j.prio, .int .i64 j.release, .int .i64 j.deadline, .int .i64 j.demand, .int .i64 (j.used + 1)] := (hI.dep (28, tupAt 0) (by simp) (hn 28 rfl)).trans (by first | (rw [eC]; done) | (rw [eC]; rfl))
    obtain ⟨g, eg, hgw, hkg⟩ := hI.new ⟨31, 33, 124, #[.int .i64 0, .int .i64 0, .int .i64 0, .int .i64 0, .int .i64 0, .int .i64 0, .int .i64 0], (fun v => aggOf (tupAt 0 v))⟩ (by simp) (hn 31 rfl)
    have eg : vs 31 = .pointer (some ⟨g, 0, none⟩) := eg
    have hkg : W.heap[g]? = some (.cells #[.int .i64 0, .int .i64 0, .int .i64 0, .int .i64 0, .int .i64 0, .int .i64 0, .int .i64 0] 124 (0, 0)) := by rw [hkg]; simp only [hi, Bool.false_eq_true, if_false]
    have o0 := BlockIs.of hkg 0 _ rfl
    have o1 := BlockIs.of hkg 1 _ rfl
    have o2 := BlockIs.of hkg 2 _ rfl
    have o3 := BlockIs.of hkg 3 _ rfl
    have o4 := BlockIs.of hkg 4 _ rfl
    have o5 := BlockIs.of hkg 5 _ rfl
    have o6 := BlockIs.of hkg 6 _ rfl
    have fz := thaw hkg
    simp only [r28, eg] at hK |-
    have HL := Lib.hid (show L 31 = true from hn 31 rfl)
    have HK := Lib.hid hK
    have HI := Lib.hid hI
    have HEC := Lib.hid eC
    have HKG := Lib.hid hkg
    have HEG := Lib.hid eg
    clear hK hI hn hcl hi hC eC hkg eg
    go_simp
    exact HK.out _ _ (HI.out.store ⟨31, 33, 124, #[.int .i64 0, .int .i64 0, .int .i64 0, .int .i64 0, .int .i64 0, .int .i64 0, .int .i64 0], (fun v => aggOf (tupAt 0 v))⟩ (by simp) (v := undef) (W' := put7 W g (.int .i64 j.task) (.int .i64 j.seq) (.int .i64 j.prio) (.int .i64 j.release) (.int .i64 j.deadline) (.int .i64 j.demand) (.int .i64 (j.used + 1))) HEG.out HL.out (put7_grown W g (.int .i64 j.task) (.int .i64 j.seq) (.int .i64 j.prio) (.int .i64 j.release) (.int .i64 j.deadline) (.int .i64 j.demand) (.int .i64 (j.used + 1))) (by rw [HEC.out]; exact put7_at HKG.out (.int .i64 j.task) (.int .i64 j.seq) (.int .i64 j.prio) (.int .i64 j.release) (.int .i64 j.deadline) (.int .i64 j.demand) (.int .i64 (j.used + 1))) (by decide) (by simp) (by simp) trivial (fun v W W' g h hg ht => h))
   ·have hC : L 26 = true := (hcl 27 _ rfl (hcl 29 _ rfl (hn 29 rfl) 27 rfl) 26 rfl)
    obtain eC := hI.res hC
    have r29 : vs 29 = .agg #[.bool vo, .bool vd, .bool vk] := (hI.dep (29, tupAt 1) (by simp) (hn 29 rfl)).trans (by first | (rw [eC]; done) | (rw [eC]; rfl))
    obtain ⟨g, eg, hgw, hkg⟩ := hI.new ⟨32, 34, 230, #[.bool false, .bool false, .bool false], (fun v => aggOf (tupAt 1 v))⟩ (by simp) (hn 32 rfl)
    have eg : vs 32 = .pointer (some ⟨g, 0, none⟩) := eg
    have hkg : W.heap[g]? = some (.cells #[.bool false, .bool false, .bool false] 230 (0, 0)) := by rw [hkg]; simp only [hi, Bool.false_eq_true, if_false]
    have o0 := BlockIs.of hkg 0 _ rfl
    have o1 := BlockIs.of hkg 1 _ rfl
    have o2 := BlockIs.of hkg 2 _ rfl
    have fz := thaw hkg
    simp only [r29, eg] at hK |-
    have HL := Lib.hid (show L 32 = true from hn 32 rfl)
    have HK := Lib.hid hK
    have HI := Lib.hid hI
    have HEC := Lib.hid eC
    have HKG := Lib.hid hkg
    have HEG := Lib.hid eg
    clear hK hI hn hcl hi hC eC hkg eg
    go_simp
    exact HK.out _ _ (HI.out.store ⟨32, 34, 230, #[.bool false, .bool false, .bool false], (fun v => aggOf (tupAt 1 v))⟩ (by simp) (v := undef) (W' := put3 W g (.bool vo) (.bool vd) (.bool vk)) HEG.out HL.out (put3_grown W g (.bool vo) (.bool vd) (.bool vk)) (by rw [HEC.out]; exact put3_at HKG.out (.bool vo) (.bool vd) (.bool vk)) (by decide) (by simp) (by simp) trivial (fun v W W' g h hg ht => h))
   ·have hC : L 26 = true := (hcl 27 _ rfl (hcl 30 _ rfl (hn 30 rfl) 27 rfl) 26 rfl)
    obtain eC := hI.res hC
    have r30 : vs 30 = .int .i64 0 := (hI.dep (30, tupAt 2) (by simp) (hn 30 rfl)).trans (by first | (rw [eC]; done) | (rw [eC]; rfl))
    simp only [r30] at hK |-
    have HK := Lib.hid (fun (v : Value) (h : v = .int .i64 0) => hK v W (hI.pure (by decide) (by simp) trivial (by simp only [List.mem_cons, List.not_mem_nil, or_false, forall_eq_or_imp, forall_eq]; simp (config := { decide := true }) only [false_implies, forall_const, true_and, and_true, true_implies]; rw [eC]; exact h)))
    clear hK hI hn hcl hi eC hC
    go_simp
    exact HK.out _ rfl
  ·intro vs W hI
   simp only [List.map, putAll, Act.put, List.setIfInBounds_toArray, List.set_cons_succ, List.set_cons_zero, Nat.reduceAdd]
   have HBW := Lib.hid hI.below
   obtain eC := hI.res (by simp)
   have r0 : vs 0 = _ := hI.pv 0 (by simp)
   have r1 : vs 1 = _ := hI.pv 1 (by simp)
   have r2 : vs 2 = _ := hI.pv 2 (by simp)
   have r3 : vs 3 = _ := hI.pv 3 (by simp)
   have r4 : vs 4 = _ := hI.pv 4 (by simp)
   have r5 : vs 5 = _ := hI.pv 5 (by simp)
   have r6 : vs 6 = _ := hI.pv 6 (by simp)
   have r7 : vs 7 = _ := hI.pv 7 (by simp)
   have r8 : vs 8 = _ := hI.pv 8 (by simp)
   have r9 : vs 9 = _ := hI.pv 9 (by simp)
   have r10 : vs 10 = _ := hI.pv 10 (by simp)
   have r11 : vs 11 = _ := hI.pv 11 (by simp)
   have r12 : vs 12 = _ := hI.pv 12 (by simp)
   have r13 : vs 13 = _ := hI.pv 13 (by simp)
   have r14 : vs 14 = _ := hI.pv 14 (by simp)
   have r15 : vs 15 = _ := hI.pv 15 (by simp)
   have r16 : vs 16 = _ := hI.pv 16 (by simp)
   have r17 : vs 17 = _ := hI.pv 17 (by simp)
   have r18 : vs 18 = _ := hI.pv 18 (by simp)
   have r19 : vs 19 = _ := hI.pv 19 (by simp)
   have r20 : vs 20 = _ := hI.pv 20 (by simp)
   have r21 : vs 21 = _ := hI.pv 21 (by simp)
   have r22 : vs 22 = _ := hI.pv 22 (by simp)
   have r23 : vs 23 = _ := hI.pv 23 (by simp)
   have r24 : vs 24 = _ := hI.pv 24 (by simp)
   have r25 : vs 25 = _ := hI.pv 25 (by simp)
   have r27 : vs 27 = .tuple #[.agg #[.int .i64 j.task, .int .i64 j.seq, .int .i64 j.prio, .int .i64 j.release, .int .i64 j.deadline, .int .i64 j.demand, .int .i64 (j.used + 1)], .agg #[.bool vo, .bool vd, .bool vk], .int .i64 0] := (hI.dep (27, fun v => v) (by simp) (by simp)).trans (by first | (rw [eC]; done) | (rw [eC]; rfl))
   have r28 : vs 28 = .agg #[.int .i64 j.task, .int .i64 j.seq, .int .i64 j.prio, .int .i64 j.release, .int .i64 j.deadline, .int .i64 j.demand, .int .i64 (j.used + 1)] := (hI.dep (28, tupAt 0) (by simp) (by simp)).trans (by first | (rw [eC]; done) | (rw [eC]; rfl))
   have r29 : vs 29 = .agg #[.bool vo, .bool vd, .bool vk] := (hI.dep (29, tupAt 1) (by simp) (by simp)).trans (by first | (rw [eC]; done) | (rw [eC]; rfl))
   have r30 : vs 30 = .int .i64 0 := (hI.dep (30, tupAt 2) (by simp) (by simp)).trans (by first | (rw [eC]; done) | (rw [eC]; rfl))
   have r35 : vs 35 = .int .i64 0 := (hI.dep (35, tupAt 2) (by simp) (by simp)).trans (by first | (rw [eC]; done) | (rw [eC]; rfl))
   obtain ⟨g0, r31, hgw0, hkg0⟩ := hI.new ⟨31, 33, 124, #[.int .i64 0, .int .i64 0, .int .i64 0, .int .i64 0, .int .i64 0, .int .i64 0, .int .i64 0], (fun v => aggOf (tupAt 0 v))⟩ (by simp) (by simp)
   have r31 : vs 31 = .pointer (some ⟨g0, 0, none⟩) := r31
   have hkg0 : W.heap[g0]? = some (.cells #[.int .i64 j.task, .int .i64 j.seq, .int .i64 j.prio, .int .i64 j.release, .int .i64 j.deadline, .int .i64 j.demand, .int .i64 (j.used + 1)] 124 (0, 0)) := by rw [hkg0, eC]; rfl
   obtain ⟨g1, r32, hgw1, hkg1⟩ := hI.new ⟨32, 34, 230, #[.bool false, .bool false, .bool false], (fun v => aggOf (tupAt 1 v))⟩ (by simp) (by simp)
   have r32 : vs 32 = .pointer (some ⟨g1, 0, none⟩) := r32
   have hkg1 : W.heap[g1]? = some (.cells #[.bool vo, .bool vd, .bool vk] 230 (0, 0)) := by rw [hkg1, eC]; rfl
   have hgg : g0 ≠ g1 := fun e => hI.two ⟨31, 33, 124, #[.int .i64 0, .int .i64 0, .int .i64 0, .int .i64 0, .int .i64 0, .int .i64 0, .int .i64 0], (fun v => aggOf (tupAt 0 v))⟩ (by simp) ⟨32, 34, 230, #[.bool false, .bool false, .bool false], (fun v => aggOf (tupAt 1 v))⟩ (by simp) (by decide) (by simp) (by simp) (r31.trans (by rw [e]; exact r32.symm))
   simp only [eC, r0, r1, r2, r3, r4, r5, r6, r7, r8, r9, r10, r11, r12, r13, r14, r15, r16, r17, r18, r19, r20, r21, r22, r23, r24, r25, r27, r28, r29, r30, r35, r31, r32]
   clear hI eC r0 r1 r2 r3 r4 r5 r6 r7 r8 r9 r10 r11 r12 r13 r14 r15 r16 r17 r18 r19 r20 r21 r22 r23 r24 r25 r27 r28 r29 r30 r35 r31 r32
   obtain ⟨w1, hw1⟩ : ∃ w1, w1 = W := ⟨_, rfl⟩
   rw [<- hw1] at HBW hkg0 hkg1 |-
   have HKG0 := Lib.hid hkg0
   have HKG1 := Lib.hid hkg1
   clear hw1 hkg0 hkg1
   go_wp2_with fail
   refine region_tail 5 (by kernel_rfl) (by kernel_rfl) ?_
   intro wy hy hby
   have HBY := Lib.hid (bthen HBW.out hby)
   have HL1 := Lib.hid (HLA.out.keep HBY.out)
   have HKB1 := Lib.hid (keep_at HKB.out HBY.out)
   have HJV1 := Lib.hid (HJV.out.ext (Ext.below HBY.out))
   have HKA1 := Lib.hid (keep_at HKA.out HBY.out)
   have HKGY0 := Lib.hid (keep_at HKG0.out hby)
   have HKGY1 := Lib.hid (keep_at HKG1.out hby)
   have hgt : Typed wy g 124 := HGF.out.2.keep (bthen HBA.out HBY.out)
   have hj0 : JobAt wy g off j := HJ0.out.ext (Ext.below HBY.out)
   clear hy hby HBW HKG0 HKG1
   obtain ⟨cj, hcj⟩ := id hgt
   obtain ⟨w2, hw2⟩ : ∃ w2, w2 = putJ wy g off (chJ j) := ⟨_, rfl⟩
   have hg2 := putJ_grown wy g off (chJ j)
   have hk2 := putJ_at (off := off) hcj (chJ j)
   have hx2 := putJ_job (off := off) hcj (cell_size hcj hj0.2.2.2.2.2.2) (chJ j)
   have hf2 := putJ_far (off := off) hcj (chJ j)
   rw [<- hw2] at hg2 hk2 hx2 hf2
   have HLL2 := Lib.hid (show LocAt w2 b lo ps F { S with js := chJ j :: rest } by
    have hc := HKB1.out
    rw [HLL.out.2.1] at hc
    refine HL1.out.wrJobs hc hgt HGF.out.1 hg2 ⟨_, hk2⟩ (HJV1.out.wrHead hx2 hf2) (fun a n c e => ?_)
    injection e with e _ _
    injection e with e
    rw [<- e]
    exact ⟨HGF.out.1, hgt⟩)
   have HJV2 := Lib.hid (show JobsV w2 (.slice (some ⟨g, off, none⟩) jn jc) (chJ j :: rest) from HJV1.out.wrHead hx2 hf2)
   have hgg : g < w.heap.size := HGF.out.2.lt
   have HKB2 := Lib.hid ((hg2.block b (lt_of_block HKB1.out) (fun q => typed_ne ⟨_, HKB1.out⟩ hgt (by decide) (by injection q))).trans HKB1.out)
   have HKA2 := Lib.hid ((hg2.block _ (lt_of_block HKA1.out) (fun q => by injection q with q; omega)).trans HKA1.out)
   have HKG2 := Lib.hid ((hg2.block g0 (lt_of_block HKGY0.out) (fun q => by injection q with q; have := HBA.out.size; omega)).trans HKGY0.out)
   have HKH2 := Lib.hid ((hg2.block g1 (lt_of_block HKGY1.out) (fun q => by injection q with q; have := HBA.out.size; omega)).trans HKGY1.out)
   have HGT2 := Lib.hid (show Typed w2 g 124 from ⟨_, hk2⟩)
   have HKE2 := Lib.hid (show Keeps F w w2 from (Keeps.of_below (bthen HBA.out HBY.out)).trans (Keeps.of_grown hg2 (fun q hq => by injection hq with hq; rw [<- hq]; exact HGF.out.1)))
   have x3 := BlockIs.of HKB1.out 3 _ rfl
   have z0 := BlockIs.of HKGY0.out 0 _ rfl
   have z1 := BlockIs.of HKGY0.out 1 _ rfl
   have z2 := BlockIs.of HKGY0.out 2 _ rfl
   have z3 := BlockIs.of HKGY0.out 3 _ rfl
   have z4 := BlockIs.of HKGY0.out 4 _ rfl
   have z5 := BlockIs.of HKGY0.out 5 _ rfl
   have z6 := BlockIs.of HKGY0.out 6 _ rfl
   obtain ⟨o0, o1, o2, o3, o4, o5, o6⟩ := hj0
   unfold IntAt at o0 o1 o2 o3 o4 o5 o6
   have fz := thaw hcj
   unfold putJ chJ at hw2
   simp only at hw2
   clear hg2 hk2 hx2 hf2 hgt hcj
   simp only [List.take_succ_cons, List.take_zero, List.drop_succ_cons, List.drop_zero]
   repeat still_step
   refine wpStill_nil ?_
   have y0 := BlockIs.of HKH2.out 0 _ rfl
   have y1 := BlockIs.of HKH2.out 1 _ rfl
   have y2 := BlockIs.of HKH2.out 2 _ rfl
   go_wp2_with (rw [<- hw2]; clear hw2 o0 o1 o2 o3 o4 o5 o6 z0 z1 z2 z3 z4 z5 z6 fz x3)
   clear y0 y1 y2
   go_loopw [8, 70] (fun o i wr => ∃ k : Nat, k <= 3 /\ i = .int .i64 k /\ Hid (EvRow wr w2.heap.size o (runEvK S k)) /\ Hid (Below w2.heap.size w2 wr)) (fun _ i _ => 3 - (intOf i).toNat)
   case atStart => exact ⟨0, by omega, rfl, Lib.hid (World.ownsRow_nil _ _ _ _), Lib.hid (Below.refl _ _)⟩
   case round =>
    obtain ⟨k', hk3, rfl, HO, HB⟩ := hrel
    rcases (show k' = 0 ∨ k' = 1 ∨ k' = 2 ∨ k' = 3 by omega) with rfl | rfl | rfl | rfl
    ·have hix := (index3 vo vd vk wr).1
     cases vo
     ·have HE := Lib.hid (show runEvK S (0 + 1) = runEvK S 0 by simp only [runEvK, HRV.out, evIf, Bool.false_eq_true, if_false, List.append_nil])
      go_wp2_with fail
      go_roundw
      case rel => exact ⟨0 + 1, by omega, by go_num, Lib.hid (by rw [HE.out]; exact Below.kept HO.out (balloc _ _)), Lib.hid (bthen HB.out (balloc _ _))⟩
      case measure => simp [intOf]
     ·have HE := Lib.hid (show runEvK S (0 + 1) = runEvK S 0 ++ [⟨4, S.idx, j.task, j.used + 1⟩] by simp only [runEvK, HRV.out, HHD.out, evIf, evt, if_true, List.nil_append])
      have hnl := runEvK_le S 0
      obtain ⟨w3, bx, hw_w3, hg_bx, hb_w3, hk_bx, hs_w3⟩ := alloc_all wr (.cells #[.bool true, .int .i64 4] 261)
      have HB3 := Lib.hid (bthen HB.out hb_w3)
      have HO3 := Lib.hid (show EvRow w3 w2.heap.size u8 _ from Below.kept HO.out hb_w3)
      have c0 := BlockIs.of hk_bx 0 _ rfl
      have c1 := BlockIs.of hk_bx 1 _ rfl
      have y0 := Ext.below HB3.out _ _ (BlockIs.of HKG2.out 0 _ rfl)
      have y6 := Ext.below HB3.out _ _ (BlockIs.of HKG2.out 6 _ rfl)
      subst hg_bx
      clear hb_w3 hs_w3 hk_bx
      go_wp2_with (rw [<- hw_w3]; clear hw_w3)
      refine (event_any b S.idx 4 j.task (j.used + 1) w3 (Ext.below HB3.out _ _ (BlockIs.of HKB2.out 0 _ rfl))).mono ?_
      rintro e w4 ⟨rfl, hb4⟩
      have HB4 := Lib.hid (bthen HB3.out hb4)
      obtain ⟨nk, hnk⟩ : ∃ nk, nk = (runEvK S 0).length := ⟨_, rfl⟩
      have HNK := Lib.hid hnk
      have HO4 := Lib.hid (show w4.ownsRow w2.heap.size 45 4 u8 nk ((runEvK S 0).flatMap evCells) by rw [hnk]; exact Below.kept HO3.out hb4)
      have hsz4 := HB4.out.size
      have hnk3 : nk <= 3 := by omega
      obtain ⟨oa, oc, ho⟩ := own_shape HO4.out
      subst ho
      clear hb4 c0 c1 y0 y6 hnk hnl
      go_wp2_with (at_builtin; refine append_elem rfl (.tmp 75) (.tmp 84) 39 rfl w2.heap.size 45 _ 4 32 Tryz.underlying39 infoEvent rfl (by decide) (.slice oa nk oc) nk _ rfl HO4.out (evCells ⟨4, S.idx, j.task, j.used + 1⟩) w4.heap.size rfl rfl rfl rfl (by omega) (by omega) hsz4 ?_)
      intro v5 w5 hown hbel hg
      have HO5 := Lib.hid (show EvRow w5 w2.heap.size v5 (runEvK S (0 + 1)) by
       rw [HE.out]
       exact EvRow.snoc HNK.out hown)
      have HB5 := Lib.hid (HB4.out.trans hbel)
      obtain ⟨oa', oc', rfl⟩ := own_shape hown
      clear hown hbel hg
      go_wp2_with fail
      go_roundw
      case rel => exact ⟨0 + 1, by omega, by go_num, HO5, HB5⟩
      case measure => simp [intOf]
    ·have hix := (index3 vo vd vk wr).2.1
     cases vd
     ·have HE := Lib.hid (show runEvK S (1 + 1) = runEvK S 1 by simp only [runEvK, HRV.out, evIf, Bool.false_eq_true, if_false, List.append_nil])
      go_wp2_with fail
      go_roundw
      case rel => exact ⟨1 + 1, by omega, by go_num, Lib.hid (by rw [HE.out]; exact Below.kept HO.out (balloc _ _)), Lib.hid (bthen HB.out (balloc _ _))⟩
      case measure => simp [intOf]
     ·have HE := Lib.hid (show runEvK S (1 + 1) = runEvK S 1 ++ [⟨5, S.idx, j.task, j.used + 1⟩] by simp only [runEvK, HRV.out, HHD.out, evIf, evt, if_true, List.nil_append])
      have hnl := runEvK_le S 1
      obtain ⟨w3, bx, hw_w3, hg_bx, hb_w3, hk_bx, hs_w3⟩ := alloc_all wr (.cells #[.bool true, .int .i64 5] 261)
      have HB3 := Lib.hid (bthen HB.out hb_w3)
      have HO3 := Lib.hid (show EvRow w3 w2.heap.size u8 _ from Below.kept HO.out hb_w3)
      have c0 := BlockIs.of hk_bx 0 _ rfl
      have c1 := BlockIs.of hk_bx 1 _ rfl
      have y0 := Ext.below HB3.out _ _ (BlockIs.of HKG2.out 0 _ rfl)
      have y6 := Ext.below HB3.out _ _ (BlockIs.of HKG2.out 6 _ rfl)
      subst hg_bx
      clear hb_w3 hs_w3 hk_bx
      go_wp2_with (rw [<- hw_w3]; clear hw_w3)
      refine (event_any b S.idx 5 j.task (j.used + 1) w3 (Ext.below HB3.out _ _ (BlockIs.of HKB2.out 0 _ rfl))).mono ?_
      rintro e w4 ⟨rfl, hb4⟩
      have HB4 := Lib.hid (bthen HB3.out hb4)
      obtain ⟨nk, hnk⟩ : ∃ nk, nk = (runEvK S 1).length := ⟨_, rfl⟩
      have HNK := Lib.hid hnk
      have HO4 := Lib.hid (show w4.ownsRow w2.heap.size 45 4 u8 nk ((runEvK S 1).flatMap evCells) by rw [hnk]; exact Below.kept HO3.out hb4)
      have hsz4 := HB4.out.size
      have hnk3 : nk <= 3 := by omega
      obtain ⟨oa, oc, ho⟩ := own_shape HO4.out
      subst ho
      clear hb4 c0 c1 y0 y6 hnk hnl
      go_wp2_with (at_builtin; refine append_elem rfl (.tmp 75) (.tmp 84) 39 rfl w2.heap.size 45 _ 4 32 Tryz.underlying39 infoEvent rfl (by decide) (.slice oa nk oc) nk _ rfl HO4.out (evCells ⟨5, S.idx, j.task, j.used + 1⟩) w4.heap.size rfl rfl rfl rfl (by omega) (by omega) hsz4 ?_)
      intro v5 w5 hown hbel hg
      have HO5 := Lib.hid (show EvRow w5 w2.heap.size v5 (runEvK S (1 + 1)) by
       rw [HE.out]
       exact EvRow.snoc HNK.out hown)
      have HB5 := Lib.hid (HB4.out.trans hbel)
      obtain ⟨oa', oc', rfl⟩ := own_shape hown
      clear hown hbel hg
      go_wp2_with fail
      go_roundw
      case rel => exact ⟨1 + 1, by omega, by go_num, HO5, HB5⟩
      case measure => simp [intOf]
    ·have hix := (index3 vo vd vk wr).2.2
     cases vk
     ·have HE := Lib.hid (show runEvK S (2 + 1) = runEvK S 2 by simp only [runEvK, HRV.out, evIf, Bool.false_eq_true, if_false, List.append_nil])
      go_wp2_with fail
      go_roundw
      case rel => exact ⟨2 + 1, by omega, by go_num, Lib.hid (by rw [HE.out]; exact Below.kept HO.out (balloc _ _)), Lib.hid (bthen HB.out (balloc _ _))⟩
      case measure => simp [intOf]
     ·have HE := Lib.hid (show runEvK S (2 + 1) = runEvK S 2 ++ [⟨6, S.idx, j.task, j.used + 1⟩] by simp only [runEvK, HRV.out, HHD.out, evIf, evt, if_true, List.nil_append])
      have hnl := runEvK_le S 2
      obtain ⟨w3, bx, hw_w3, hg_bx, hb_w3, hk_bx, hs_w3⟩ := alloc_all wr (.cells #[.bool true, .int .i64 6] 261)
      have HB3 := Lib.hid (bthen HB.out hb_w3)
      have HO3 := Lib.hid (show EvRow w3 w2.heap.size u8 _ from Below.kept HO.out hb_w3)
      have c0 := BlockIs.of hk_bx 0 _ rfl
      have c1 := BlockIs.of hk_bx 1 _ rfl
      have y0 := Ext.below HB3.out _ _ (BlockIs.of HKG2.out 0 _ rfl)
      have y6 := Ext.below HB3.out _ _ (BlockIs.of HKG2.out 6 _ rfl)
      subst hg_bx
      clear hb_w3 hs_w3 hk_bx
      go_wp2_with (rw [<- hw_w3]; clear hw_w3)
      refine (event_any b S.idx 6 j.task (j.used + 1) w3 (Ext.below HB3.out _ _ (BlockIs.of HKB2.out 0 _ rfl))).mono ?_
      rintro e w4 ⟨rfl, hb4⟩
      have HB4 := Lib.hid (bthen HB3.out hb4)
      obtain ⟨nk, hnk⟩ : ∃ nk, nk = (runEvK S 2).length := ⟨_, rfl⟩
      have HNK := Lib.hid hnk
      have HO4 := Lib.hid (show w4.ownsRow w2.heap.size 45 4 u8 nk ((runEvK S 2).flatMap evCells) by rw [hnk]; exact Below.kept HO3.out hb4)
      have hsz4 := HB4.out.size
      have hnk3 : nk <= 3 := by omega
      obtain ⟨oa, oc, ho⟩ := own_shape HO4.out
      subst ho
      clear hb4 c0 c1 y0 y6 hnk hnl
      go_wp2_with (at_builtin; refine append_elem rfl (.tmp 75) (.tmp 84) 39 rfl w2.heap.size 45 _ 4 32 Tryz.underlying39 infoEvent rfl (by decide) (.slice oa nk oc) nk _ rfl HO4.out (evCells ⟨6, S.idx, j.task, j.used + 1⟩) w4.heap.size rfl rfl rfl rfl (by omega) (by omega) hsz4 ?_)
      intro v5 w5 hown hbel hg
      have HO5 := Lib.hid (show EvRow w5 w2.heap.size v5 (runEvK S (2 + 1)) by
       rw [HE.out]
       exact EvRow.snoc HNK.out hown)
      have HB5 := Lib.hid (HB4.out.trans hbel)
      obtain ⟨oa', oc', rfl⟩ := own_shape hown
      clear hown hbel hg
      go_wp2_with fail
      go_roundw
      case rel => exact ⟨2 + 1, by omega, by go_num, HO5, HB5⟩
      case measure => simp [intOf]
    ·have hq := True.intro
     have HL3 := Lib.hid (HLL2.out.keep HB.out)
     have HKB3 := Lib.hid (keep_at HKB2.out HB.out)
     have HKA3 := Lib.hid (keep_at HKA2.out HB.out)
     have HKH3 := Lib.hid (keep_at HKH2.out HB.out)
     have HJV3 := Lib.hid (HJV2.out.ext (Ext.below HB.out))
     have HGT3 := Lib.hid (HGT2.out.keep HB.out)
     have HKE3 := Lib.hid (HKE2.out.trans (Keeps.of_below HB.out))
     have HEV := Lib.hid (show EvRow wr w.heap.size u8 (runEv S) by
      unfold runEv
      rw [HJS.out]
      exact own_lower HO.out HKE2.out.size)
     have hne : ∀ q, F q -> q < w.heap.size := fun q hf => HL.out.lt hf
     have HNE := Lib.hid hne
     have y0 := BlockIs.of HKH3.out 0 _ rfl
     have y1 := BlockIs.of HKH3.out 1 _ rfl
     have y2 := BlockIs.of HKH3.out 2 _ rfl
     have x3 := BlockIs.of HKB3.out 3 _ rfl
     obtain ⟨oa, oc, ho⟩ := own_shape HO.out
     obtain ⟨nk, hnk⟩ : ∃ nk, nk = (runEvK S 3).length := ⟨_, rfl⟩
     rw [<- hnk] at ho
     subst ho
     clear HO HB hne hnk
     have HRE := Lib.hid (show runE S = 0 by unfold runE; rw [HJS.out]; rfl)
     cases hdk : (vd || vk)
     ·simp only [Bool.or_eq_false_iff] at hdk
      obtain ⟨rfl, rfl⟩ := hdk
      obtain ⟨wz, hw_wz⟩ : ∃ wz, wz = put3 wr w.heap.size (.bool vo) (.bool false) (.bool false) := ⟨_, rfl⟩
      have hk_wz := put3_at HKA3.out (.bool vo) (.bool false) (.bool false)
      have hg_wz := put3_grown wr w.heap.size (.bool vo) (.bool false) (.bool false)
      rw [<- hw_wz] at hk_wz hg_wz
      unfold put3 at hw_wz
      have o_wz_0 := BlockIs.of HKA3.out 0 _ rfl
      have o_wz_1 := BlockIs.of HKA3.out 1 _ rfl
      have o_wz_2 := BlockIs.of HKA3.out 2 _ rfl
      have f_wz := thaw HKA3.out
      have e_wz_0 := BlockIs.of hk_wz 0 _ rfl
      have e_wz_1 := BlockIs.of hk_wz 1 _ rfl
      have e_wz_2 := BlockIs.of hk_wz 2 _ rfl
      have HLZ := Lib.hid (HL3.out.far (fun q hf => hg_wz.block q (HL3.out.lt hf) (fun e => by injection e with e; have := HNE.out q hf; omega)))
      have HKZ := Lib.hid (HKE3.out.trans' (Keeps.of_grown (F := fun q => w.heap.size <= q) hg_wz (fun q hq => by injection hq with hq; omega)) (fun q hq hq2 => absurd hq2 (by omega)))
      have HEZ := Lib.hid (show EvRow wz w.heap.size (.slice oa nk oc) (runEv S) from own_apart HEV.out hg_wz (fun q hq => by injection hq with hq; rw [<- hq]; exact ⟨_, HKA3.out⟩) (by decide))
      clear hk_wz hg_wz
      go_wp2_with (rw [<- hw_wz]; clear hw_wz)
      refine bodyPost_ret (v := .tuple #[.agg #[.bool vo, .bool false, .bool false], .slice oa nk oc, .int .i64 0]) (by simp [results, Tryz.results118, go_sem, e_wz_0, e_wz_1, e_wz_2]) rfl ?_
      refine ⟨oa, nk, oc, by rw [HRV.out, HRE.out], F, ?_, HEZ.out, HKZ.out, fun q hq => hq, fun q hq => .inl hq⟩
      have e : runS S = { S with js := chJ j :: rest } := by
       unfold runS
       rw [HRV.out, HHD.out, HJS.out]
       rfl
      rw [e]
      exact HLZ.out
     ·have HDK := Lib.hid hdk
      obtain ⟨jr, hjr⟩ : ∃ jr, jr = rest.length := ⟨_, rfl⟩
      have HJR := Lib.hid hjr
      have e1 : jn = jr + 1 := by rw [hjr]; exact HJN.out
      subst e1
      clear hjr
      have hjc : jr + 1 <= jc := by omega
      have key : ∀ (a : Addr) (wq : World), a.block = g -> (rest ≠ [] -> a = ⟨g, off + 7, none⟩) -> wq = wr.setCell ⟨b, 3, none⟩ (.slice (some a) jr (jc - 1)) -> LocAt wq b lo ps F { S with js := rest } /\ wr.grownBy wq (some b) := by
       intro a wq ha ha2 hwq
       have hg := set_grown wr b 3 (.slice (some a) jr (jc - 1))
       rw [<- hwq] at hg
       have hc := HKB3.out
       rw [HLL.out.2.1] at hc
       have hkq : wq.heap[b]? = some (.cells #[.int .i64 S.idx, .int .i64 S.lvl, .slice (some ⟨tg, 0, none⟩) pn tc, .slice (some a) jr (jc - 1)] 140 (0, 0)) := by
        rw [hwq]
        have := blk_set hc 3 (.slice (some a) jr (jc - 1))
        simpa using this
       refine ⟨HL3.out.setJobs hc hg hkq ?_ (fun a' n c e => ?_), hg⟩
       ·rw [HJR.out]
        exact HJV3.out.tail a ha2
       ·injection e with e _ _
        injection e with e
        rw [<- e, ha]
        exact ⟨HGF.out.1, HGT3.out⟩
      have KEY := Lib.hid key
      have f3 := thaw HKB3.out
      have d9 : (1 : Int) <= (jr : Int) + 1 := by omega
      have d10 : (0 : Int) <= (jr : Int) := by omega
      clear key
      have HRS := Lib.hid (show runS S = { S with js := rest } by
       unfold runS
       rw [HRV.out, HJS.out]
       simp only [List.isEmpty_cons, Bool.false_eq_true, if_false, List.tail_cons]
       rw [show (({ over := vo, done := vd, kill := vk } : Verdict).done || ({ over := vo, done := vd, kill := vk } : Verdict).kill) = true from HDK.out, if_pos rfl])
      cases vd
      ·simp only [Bool.false_or] at hdk
       subst hdk
       by_cases hc1 : jc = 1
       ·have hq := True.intro
        obtain rfl : jr = 0 := by omega
        subst hc1
        obtain ⟨wq, hwq⟩ : ∃ wq, wq = wr.setCell ⟨b, 3, none⟩ (.slice (some ⟨g, off, none⟩) 0 0) := ⟨_, rfl⟩
        obtain ⟨hlq, hgq⟩ := KEY.out ⟨g, off, none⟩ wq rfl (fun hr => absurd (List.length_eq_zero_iff.1 HJR.out.symm) hr) hwq
        have hkaq := (hgq.block _ (lt_of_block HKA3.out) (fun e => by injection e with e; have := HNE.out b HL.out.fb; omega)).trans HKA3.out
        have y0' := BlockIs.of ((hgq.block _ (lt_of_block HKH3.out) (fun e => typed_ne ⟨_, HKH3.out⟩ ⟨_, HKB3.out⟩ (by decide) (by injection e))).trans HKH3.out) 0 _ rfl
        have y1' := BlockIs.of ((hgq.block _ (lt_of_block HKH3.out) (fun e => typed_ne ⟨_, HKH3.out⟩ ⟨_, HKB3.out⟩ (by decide) (by injection e))).trans HKH3.out) 1 _ rfl
        have y2' := BlockIs.of ((hgq.block _ (lt_of_block HKH3.out) (fun e => typed_ne ⟨_, HKH3.out⟩ ⟨_, HKB3.out⟩ (by decide) (by injection e))).trans HKH3.out) 2 _ rfl
        obtain ⟨wz, hw_wz⟩ : ∃ wz, wz = put3 wq w.heap.size (.bool vo) (.bool false) (.bool true) := ⟨_, rfl⟩
        have hk_wz := put3_at hkaq (.bool vo) (.bool false) (.bool true)
        have hg_wz := put3_grown wq w.heap.size (.bool vo) (.bool false) (.bool true)
        rw [<- hw_wz] at hk_wz hg_wz
        unfold put3 at hw_wz
        have o_wz_0 := BlockIs.of hkaq 0 _ rfl
        have o_wz_1 := BlockIs.of hkaq 1 _ rfl
        have o_wz_2 := BlockIs.of hkaq 2 _ rfl
        have f_wz := thaw hkaq
        have e_wz_0 := BlockIs.of hk_wz 0 _ rfl
        have e_wz_1 := BlockIs.of hk_wz 1 _ rfl
        have e_wz_2 := BlockIs.of hk_wz 2 _ rfl
        have HLZ := Lib.hid (hlq.far (fun q hf => hg_wz.block q (hlq.lt hf) (fun e => by injection e with e; have := HNE.out q hf; omega)))
        have HKZ := Lib.hid ((HKE3.out.trans (Keeps.of_grown hgq (fun q hq => by injection hq with hq; rw [<- hq]; exact HL.out.fb))).trans' (Keeps.of_grown (F := fun q => w.heap.size <= q) hg_wz (fun q hq => by injection hq with hq; omega)) (fun q hq hq2 => absurd hq2 (by omega)))
        have HEZ := Lib.hid (show EvRow wz w.heap.size (.slice oa nk oc) (runEv S) from own_apart (own_apart HEV.out hgq (fun q hq => by injection hq with hq; rw [<- hq]; exact ⟨_, HKB3.out⟩) (by decide)) hg_wz (fun q hq => by injection hq with hq; rw [<- hq]; exact ⟨_, hkaq⟩) (by decide))
        clear hk_wz hg_wz hlq hgq hkaq
        go_wp2_with (first | (rw [<- hwq]; clear hwq f3 y0 y1 y2 x3) | (rw [<- hw_wz]; clear hw_wz))
        refine bodyPost_ret (v := .tuple #[.agg #[.bool vo, .bool false, .bool true], .slice oa nk oc, .int .i64 0]) (by simp [results, Tryz.results118, go_sem, e_wz_0, e_wz_1, e_wz_2]) rfl ?_
        exact ⟨oa, nk, oc, by rw [HRV.out, HRE.out], F, by rw [HRS.out]; exact HLZ.out, HEZ.out, HKZ.out, fun q hq => hq, fun q hq => .inl hq⟩
       ·have hq := True.intro
        have hc2 := hc1
        obtain ⟨wq, hwq⟩ : ∃ wq, wq = wr.setCell ⟨b, 3, none⟩ (.slice (some ⟨g, off + 7, none⟩) jr (jc - 1)) := ⟨_, rfl⟩
        obtain ⟨hlq, hgq⟩ := KEY.out ⟨g, off + 7, none⟩ wq rfl (fun _ => rfl) hwq
        have hkaq := (hgq.block _ (lt_of_block HKA3.out) (fun e => by injection e with e; have := HNE.out b HL.out.fb; omega)).trans HKA3.out
        have y0' := BlockIs.of ((hgq.block _ (lt_of_block HKH3.out) (fun e => typed_ne ⟨_, HKH3.out⟩ ⟨_, HKB3.out⟩ (by decide) (by injection e))).trans HKH3.out) 0 _ rfl
        have y1' := BlockIs.of ((hgq.block _ (lt_of_block HKH3.out) (fun e => typed_ne ⟨_, HKH3.out⟩ ⟨_, HKB3.out⟩ (by decide) (by injection e))).trans HKH3.out) 1 _ rfl
        have y2' := BlockIs.of ((hgq.block _ (lt_of_block HKH3.out) (fun e => typed_ne ⟨_, HKH3.out⟩ ⟨_, HKB3.out⟩ (by decide) (by injection e))).trans HKH3.out) 2 _ rfl
        obtain ⟨wz, hw_wz⟩ : ∃ wz, wz = put3 wq w.heap.size (.bool vo) (.bool false) (.bool true) := ⟨_, rfl⟩
        have hk_wz := put3_at hkaq (.bool vo) (.bool false) (.bool true)
        have hg_wz := put3_grown wq w.heap.size (.bool vo) (.bool false) (.bool true)
        rw [<- hw_wz] at hk_wz hg_wz
        unfold put3 at hw_wz
        have o_wz_0 := BlockIs.of hkaq 0 _ rfl
        have o_wz_1 := BlockIs.of hkaq 1 _ rfl
        have o_wz_2 := BlockIs.of hkaq 2 _ rfl
        have f_wz := thaw hkaq
        have e_wz_0 := BlockIs.of hk_wz 0 _ rfl
        have e_wz_1 := BlockIs.of hk_wz 1 _ rfl
        have e_wz_2 := BlockIs.of hk_wz 2 _ rfl
        have HLZ := Lib.hid (hlq.far (fun q hf => hg_wz.block q (hlq.lt hf) (fun e => by injection e with e; have := HNE.out q hf; omega)))
        have HKZ := Lib.hid ((HKE3.out.trans (Keeps.of_grown hgq (fun q hq => by injection hq with hq; rw [<- hq]; exact HL.out.fb))).trans' (Keeps.of_grown (F := fun q => w.heap.size <= q) hg_wz (fun q hq => by injection hq with hq; omega)) (fun q hq hq2 => absurd hq2 (by omega)))
        have HEZ := Lib.hid (show EvRow wz w.heap.size (.slice oa nk oc) (runEv S) from own_apart (own_apart HEV.out hgq (fun q hq => by injection hq with hq; rw [<- hq]; exact ⟨_, HKB3.out⟩) (by decide)) hg_wz (fun q hq => by injection hq with hq; rw [<- hq]; exact ⟨_, hkaq⟩) (by decide))
        clear hk_wz hg_wz hlq hgq hkaq
        go_wp2_with (first | (rw [<- hwq]; clear hwq f3 y0 y1 y2 x3) | (rw [<- hw_wz]; clear hw_wz))
        refine bodyPost_ret (v := .tuple #[.agg #[.bool vo, .bool false, .bool true], .slice oa nk oc, .int .i64 0]) (by simp [results, Tryz.results118, go_sem, e_wz_0, e_wz_1, e_wz_2]) rfl ?_
        exact ⟨oa, nk, oc, by rw [HRV.out, HRE.out], F, by rw [HRS.out]; exact HLZ.out, HEZ.out, HKZ.out, fun q hq => hq, fun q hq => .inl hq⟩
      ·clear hdk
       by_cases hc1 : jc = 1
       ·have hq := True.intro
        obtain rfl : jr = 0 := by omega
        subst hc1
        obtain ⟨wq, hwq⟩ : ∃ wq, wq = wr.setCell ⟨b, 3, none⟩ (.slice (some ⟨g, off, none⟩) 0 0) := ⟨_, rfl⟩
        obtain ⟨hlq, hgq⟩ := KEY.out ⟨g, off, none⟩ wq rfl (fun hr => absurd (List.length_eq_zero_iff.1 HJR.out.symm) hr) hwq
        have hkaq := (hgq.block _ (lt_of_block HKA3.out) (fun e => by injection e with e; have := HNE.out b HL.out.fb; omega)).trans HKA3.out
        have y0' := BlockIs.of ((hgq.block _ (lt_of_block HKH3.out) (fun e => typed_ne ⟨_, HKH3.out⟩ ⟨_, HKB3.out⟩ (by decide) (by injection e))).trans HKH3.out) 0 _ rfl
        have y1' := BlockIs.of ((hgq.block _ (lt_of_block HKH3.out) (fun e => typed_ne ⟨_, HKH3.out⟩ ⟨_, HKB3.out⟩ (by decide) (by injection e))).trans HKH3.out) 1 _ rfl
        have y2' := BlockIs.of ((hgq.block _ (lt_of_block HKH3.out) (fun e => typed_ne ⟨_, HKH3.out⟩ ⟨_, HKB3.out⟩ (by decide) (by injection e))).trans HKH3.out) 2 _ rfl
        obtain ⟨wz, hw_wz⟩ : ∃ wz, wz = put3 wq w.heap.size (.bool vo) (.bool true) (.bool vk) := ⟨_, rfl⟩
        have hk_wz := put3_at hkaq (.bool vo) (.bool true) (.bool vk)
        have hg_wz := put3_grown wq w.heap.size (.bool vo) (.bool true) (.bool vk)
        rw [<- hw_wz] at hk_wz hg_wz
        unfold put3 at hw_wz
        have o_wz_0 := BlockIs.of hkaq 0 _ rfl
        have o_wz_1 := BlockIs.of hkaq 1 _ rfl
        have o_wz_2 := BlockIs.of hkaq 2 _ rfl
        have f_wz := thaw hkaq
        have e_wz_0 := BlockIs.of hk_wz 0 _ rfl
        have e_wz_1 := BlockIs.of hk_wz 1 _ rfl
        have e_wz_2 := BlockIs.of hk_wz 2 _ rfl
        have HLZ := Lib.hid (hlq.far (fun q hf => hg_wz.block q (hlq.lt hf) (fun e => by injection e with e; have := HNE.out q hf; omega)))
        have HKZ := Lib.hid ((HKE3.out.trans (Keeps.of_grown hgq (fun q hq => by injection hq with hq; rw [<- hq]; exact HL.out.fb))).trans' (Keeps.of_grown (F := fun q => w.heap.size <= q) hg_wz (fun q hq => by injection hq with hq; omega)) (fun q hq hq2 => absurd hq2 (by omega)))
        have HEZ := Lib.hid (show EvRow wz w.heap.size (.slice oa nk oc) (runEv S) from own_apart (own_apart HEV.out hgq (fun q hq => by injection hq with hq; rw [<- hq]; exact ⟨_, HKB3.out⟩) (by decide)) hg_wz (fun q hq => by injection hq with hq; rw [<- hq]; exact ⟨_, hkaq⟩) (by decide))
        clear hk_wz hg_wz hlq hgq hkaq
        go_wp2_with (first | (rw [<- hwq]; clear hwq f3 y0 y1 y2 x3) | (rw [<- hw_wz]; clear hw_wz))
        refine bodyPost_ret (v := .tuple #[.agg #[.bool vo, .bool true, .bool vk], .slice oa nk oc, .int .i64 0]) (by simp [results, Tryz.results118, go_sem, e_wz_0, e_wz_1, e_wz_2]) rfl ?_
        exact ⟨oa, nk, oc, by rw [HRV.out, HRE.out], F, by rw [HRS.out]; exact HLZ.out, HEZ.out, HKZ.out, fun q hq => hq, fun q hq => .inl hq⟩
       ·have hq := True.intro
        have hc2 := hc1
        obtain ⟨wq, hwq⟩ : ∃ wq, wq = wr.setCell ⟨b, 3, none⟩ (.slice (some ⟨g, off + 7, none⟩) jr (jc - 1)) := ⟨_, rfl⟩
        obtain ⟨hlq, hgq⟩ := KEY.out ⟨g, off + 7, none⟩ wq rfl (fun _ => rfl) hwq
        have hkaq := (hgq.block _ (lt_of_block HKA3.out) (fun e => by injection e with e; have := HNE.out b HL.out.fb; omega)).trans HKA3.out
        have y0' := BlockIs.of ((hgq.block _ (lt_of_block HKH3.out) (fun e => typed_ne ⟨_, HKH3.out⟩ ⟨_, HKB3.out⟩ (by decide) (by injection e))).trans HKH3.out) 0 _ rfl
        have y1' := BlockIs.of ((hgq.block _ (lt_of_block HKH3.out) (fun e => typed_ne ⟨_, HKH3.out⟩ ⟨_, HKB3.out⟩ (by decide) (by injection e))).trans HKH3.out) 1 _ rfl
        have y2' := BlockIs.of ((hgq.block _ (lt_of_block HKH3.out) (fun e => typed_ne ⟨_, HKH3.out⟩ ⟨_, HKB3.out⟩ (by decide) (by injection e))).trans HKH3.out) 2 _ rfl
        obtain ⟨wz, hw_wz⟩ : ∃ wz, wz = put3 wq w.heap.size (.bool vo) (.bool true) (.bool vk) := ⟨_, rfl⟩
        have hk_wz := put3_at hkaq (.bool vo) (.bool true) (.bool vk)
        have hg_wz := put3_grown wq w.heap.size (.bool vo) (.bool true) (.bool vk)
        rw [<- hw_wz] at hk_wz hg_wz
        unfold put3 at hw_wz
        have o_wz_0 := BlockIs.of hkaq 0 _ rfl
        have o_wz_1 := BlockIs.of hkaq 1 _ rfl
        have o_wz_2 := BlockIs.of hkaq 2 _ rfl
        have f_wz := thaw hkaq
        have e_wz_0 := BlockIs.of hk_wz 0 _ rfl
        have e_wz_1 := BlockIs.of hk_wz 1 _ rfl
        have e_wz_2 := BlockIs.of hk_wz 2 _ rfl
        have HLZ := Lib.hid (hlq.far (fun q hf => hg_wz.block q (hlq.lt hf) (fun e => by injection e with e; have := HNE.out q hf; omega)))
        have HKZ := Lib.hid ((HKE3.out.trans (Keeps.of_grown hgq (fun q hq => by injection hq with hq; rw [<- hq]; exact HL.out.fb))).trans' (Keeps.of_grown (F := fun q => w.heap.size <= q) hg_wz (fun q hq => by injection hq with hq; omega)) (fun q hq hq2 => absurd hq2 (by omega)))
        have HEZ := Lib.hid (show EvRow wz w.heap.size (.slice oa nk oc) (runEv S) from own_apart (own_apart HEV.out hgq (fun q hq => by injection hq with hq; rw [<- hq]; exact ⟨_, HKB3.out⟩) (by decide)) hg_wz (fun q hq => by injection hq with hq; rw [<- hq]; exact ⟨_, hkaq⟩) (by decide))
        clear hk_wz hg_wz hlq hgq hkaq
        go_wp2_with (first | (rw [<- hwq]; clear hwq f3 y0 y1 y2 x3) | (rw [<- hw_wz]; clear hw_wz))
        refine bodyPost_ret (v := .tuple #[.agg #[.bool vo, .bool true, .bool vk], .slice oa nk oc, .int .i64 0]) (by simp [results, Tryz.results118, go_sem, e_wz_0, e_wz_1, e_wz_2]) rfl ?_
        exact ⟨oa, nk, oc, by rw [HRV.out, HRE.out], F, by rw [HRS.out]; exact HLZ.out, HEZ.out, HKZ.out, fun q hq => hq, fun q hq => .inl hq⟩
set_option maxRecDepth 100000 in
set_option maxHeartbeats 8000000 in
theorem fail_any (b lo : Nat) (ps : List Nat) (F : Nat -> Prop) (S : LSt) (m : Int) (w : World) (h : LocAt w b lo ps F S) (hw : LWf S m) :
  Calls Tryz.prog 80 #[.pointer (some ⟨b, 0, none⟩)] w fun e w' => ∃ a n c, e = .returned (.tuple #[.slice a n c, .int .i64 (runE S)]) /\ ∃ F', LocAt w' b lo ps F' (failS S) /\ EvRow w' w.heap.size (.slice a n c) (failEv S) /\ Keeps F w w' /\ (∀ k, F k -> F' k) /\ (∀ k, F' k -> F k ∨ w.heap.size <= k) := by
 have HW := Lib.hid hw
 clear hw
 have HL := Lib.hid h
 obtain ⟨tv, jv, c1, -, -, c4, c5⟩ := id h.cell
 cases hjs : S.js with
 | nil =>
  rw [hjs] at c4
  obtain ⟨ja, jc, rfl, -⟩ := c4
  have x3 := BlockIs.of c1 3 _ rfl
  simp only [List.length_nil] at x3
  clear h c1 c5
  have HJS := Lib.hid hjs
  clear hjs
  go_enter Tryz.func80, Tryz.ntmps80
  go_wp2_with fail
  go_ret2
  refine ⟨none, 0, 0, ?_, F, ?_, ?_, Keeps.refl _ _, fun k hk => hk, fun k hk => .inl hk⟩
  ·unfold runE
   rw [HJS.out]
   rfl
  ·unfold failS
   have h := HL.out
   have e : ({ S with js := S.js.tail } : LSt) = S := by rw [HJS.out, List.tail_nil, <- HJS.out]
   rw [e]
   exact h
  ·unfold failEv
   rw [HJS.out]
   exact World.ownsRow_nil _ _ _ _
 | cons j rest =>
  rw [hjs] at c4
  have HJV := Lib.hid c4
  obtain ⟨ja, jc, hjv, hz1, hz2, hz3, hz4⟩ := c4
  obtain ⟨g, off, rfl, hcell⟩ := hz4 (by simp)
  obtain ⟨jn, hjn⟩ : ∃ jn, jn = (j :: rest).length := ⟨_, rfl⟩
  rw [<- hjn] at hjv hz2
  subst hjv
  have HJ0 := Lib.hid (show JobAt w g off j by have := hcell 0 (by simp); simpa using this)
  have HGF := Lib.hid (c5 ⟨g, off, none⟩ jn jc rfl)
  have HJN := Lib.hid (show jn = rest.length + 1 by rw [hjn]; rfl)
  have HCP := Lib.hid (And.intro hz1 (And.intro hz2 hz3))
  have HJS := Lib.hid hjs
  have d0 : ((jn : Int) == 0) = false := by rw [beq_eq_false_iff_ne, hjn]; simp only [List.length_cons]; omega
  have d1 : (0 : Int) < (jn : Int) := by rw [hjn]; simp only [List.length_cons]; omega
  have d2 : (1 : Int) <= (jn : Int) := by omega
  have d4 : 0 < jn := by omega
  have d3 : (jn : Int) <= (jc : Int) := by omega
  obtain ⟨wa, ga, hw_wa, hg_ga, hb_wa, hk_ga, hs_wa⟩ := alloc_all w (.cells #[.int .i64 j.task, .int .i64 j.seq, .int .i64 j.prio, .int .i64 j.release, .int .i64 j.deadline, .int .i64 j.demand, .int .i64 j.used] 124)
  subst hg_ga
  have HBA := Lib.hid hb_wa
  have HLA := Lib.hid (HL.out.keep hb_wa)
  have HKA := Lib.hid hk_ga
  have HKB := Lib.hid (keep_at c1 hb_wa)
  have HJV := Lib.hid (HJV.out.ext (Ext.below hb_wa))
  have HGT := Lib.hid (HGF.out.2.keep hb_wa)
  obtain ⟨jr, hjr⟩ : ∃ jr, jr = rest.length := ⟨_, rfl⟩
  have HJR := Lib.hid hjr
  have e1 : jn = jr + 1 := by rw [hjr]; exact HJN.out
  have hjc : jn <= jc := hz2
  subst e1
  have key : ∀ (a : Addr) (wq : World), a.block = g -> (rest ≠ [] -> a = ⟨g, off + 7, none⟩) -> wq = wa.setCell ⟨b, 3, none⟩ (.slice (some a) jr (jc - 1)) -> LocAt wq b lo ps F { S with js := rest } /\ wa.grownBy wq (some b) := by
   intro a wq ha ha2 hwq
   have hg := set_grown wa b 3 (.slice (some a) jr (jc - 1))
   rw [<- hwq] at hg
   have hkq : wq.heap[b]? = some (.cells #[.int .i64 S.idx, .int .i64 S.lvl, tv, .slice (some a) jr (jc - 1)] 140 (0, 0)) := by
    rw [hwq]
    have := blk_set HKB.out 3 (.slice (some a) jr (jc - 1))
    simpa using this
   refine ⟨HLA.out.setJobs HKB.out hg hkq ?_ (fun a' n c e => ?_), hg⟩
   ·rw [HJR.out]
    exact HJV.out.tail a ha2
   ·injection e with e _ _
    injection e with e
    rw [<- e, ha]
    exact ⟨HGF.out.1, HGT.out⟩
  have KEY := Lib.hid key
  have f3 := thaw HKB.out
  have x3 : w.cell? ⟨b, 3, none⟩ = some (.slice (some ⟨g, off, none⟩) (jr + 1) jc) := BlockIs.of c1 3 _ rfl
  have x3' := BlockIs.of HKB.out 3 _ rfl
  obtain ⟨y0, y1, y2, y3, y4, y5, y6⟩ := HJ0.out
  unfold IntAt at y0 y1 y2 y3 y4 y5 y6
  have d9 : (1 : Int) <= (jr : Int) + 1 := by omega
  have d10 : (0 : Int) <= (jr : Int) := by omega
  have HRE := Lib.hid (show runE S = 0 by unfold runE; rw [hjs]; rfl)
  have HFS := Lib.hid (show failS S = { S with js := rest } by unfold failS; rw [hjs]; rfl)
  have hh : S.hd = j := by unfold LSt.hd; rw [hjs]; rfl
  have HFE := Lib.hid (show failEv S = [⟨7, S.idx, j.task, j.used⟩] by unfold failEv; rw [hh, hjs]; rfl)
  clear h hjs c1 c5 hz1 hz2 hz3 hz4 hcell hjn hb_wa hk_ga hs_wa key hjr hh
  go_enter Tryz.func80, Tryz.ntmps80
  by_cases hc1 : jc = 1
  ·have hq := True.intro
   obtain rfl : jr = 0 := by omega
   subst hc1
   obtain ⟨wq, hwq⟩ : ∃ wq, wq = wa.setCell ⟨b, 3, none⟩ (.slice (some ⟨g, off, none⟩) 0 0) := ⟨_, rfl⟩
   obtain ⟨hlq, hgq⟩ := KEY.out ⟨g, off, none⟩ wq rfl (fun hr => absurd (List.length_eq_zero_iff.1 HJR.out.symm) hr) hwq
   have HLQ := Lib.hid hlq
   have HKQ := Lib.hid ((Keeps.of_below (F := F) HBA.out).trans (Keeps.of_grown hgq (fun q hq => by injection hq with hq; rw [<- hq]; exact HL.out.fb)))
   have hka := (hgq.block _ (lt_of_block HKA.out) (fun e => by injection e with e; have := HL.out.lt HL.out.fb; omega)).trans HKA.out
   have t0 := BlockIs.of hka 0 _ rfl
   have t6 := BlockIs.of hka 6 _ rfl
   clear hlq hgq hka
   go_wp2_with (first | (rw [<- hw_wa]; clear hw_wa y0 y1 y2 y3 y4 y5 y6) | (rw [<- hwq]; clear hwq f3 x3))
   refine (event_any b S.idx 7 j.task j.used wq (by obtain ⟨tv, jv2, c1, -⟩ := HLQ.out.cell; exact BlockIs.of c1 0 _ rfl)).mono ?_
   rintro e w6 ⟨rfl, hb6⟩
   have HB6 := Lib.hid hb6
   have HL6 := Lib.hid (HLQ.out.keep (bthen hb6 (balloc w6 (.cells (evCells ⟨7, S.idx, j.task, j.used⟩).toArray 45))))
   clear hb6 t0 t6
   go_wp2_with fail
   go_ret2
   refine ⟨some ⟨w6.heap.size, 0, none⟩, 1, 1, by rw [HRE.out]; rfl, F, by rw [HFS.out]; exact HL6.out, ?_, HKQ.out.trans (Keeps.of_below (bthen HB6.out (balloc _ _))), fun q hq => hq, fun q hq => .inl hq⟩
   rw [HFE.out]
   exact own_lower (own_one w6 _ 4 _ rfl) (Nat.le_trans HKQ.out.size HB6.out.size)
  ·have hq := True.intro
   have hc2 := hc1
   obtain ⟨wq, hwq⟩ : ∃ wq, wq = wa.setCell ⟨b, 3, none⟩ (.slice (some ⟨g, off + 7, none⟩) jr (jc - 1)) := ⟨_, rfl⟩
   obtain ⟨hlq, hgq⟩ := KEY.out ⟨g, off + 7, none⟩ wq rfl (fun _ => rfl) hwq
   have HLQ := Lib.hid hlq
   have HKQ := Lib.hid ((Keeps.of_below (F := F) HBA.out).trans (Keeps.of_grown hgq (fun q hq => by injection hq with hq; rw [<- hq]; exact HL.out.fb)))
   have hka := (hgq.block _ (lt_of_block HKA.out) (fun e => by injection e with e; have := HL.out.lt HL.out.fb; omega)).trans HKA.out
   have t0 := BlockIs.of hka 0 _ rfl
   have t6 := BlockIs.of hka 6 _ rfl
   clear hlq hgq hka
   go_wp2_with (first | (rw [<- hw_wa]; clear hw_wa y0 y1 y2 y3 y4 y5 y6) | (rw [<- hwq]; clear hwq f3 x3))
   refine (event_any b S.idx 7 j.task j.used wq (by obtain ⟨tv, jv2, c1, -⟩ := HLQ.out.cell; exact BlockIs.of c1 0 _ rfl)).mono ?_
   rintro e w6 ⟨rfl, hb6⟩
   have HB6 := Lib.hid hb6
   have HL6 := Lib.hid (HLQ.out.keep (bthen hb6 (balloc w6 (.cells (evCells ⟨7, S.idx, j.task, j.used⟩).toArray 45))))
   clear hb6 t0 t6
   go_wp2_with fail
   go_ret2
   refine ⟨some ⟨w6.heap.size, 0, none⟩, 1, 1, by rw [HRE.out]; rfl, F, by rw [HFS.out]; exact HL6.out, ?_, HKQ.out.trans (Keeps.of_below (bthen HB6.out (balloc _ _))), fun q hq => hq, fun q hq => .inl hq⟩
   rw [HFE.out]
   exact own_lower (own_one w6 _ 4 _ rfl) (Nat.le_trans HKQ.out.size HB6.out.size)
end Go.Proofs.YtooeeiiiflfckaaGreat
/- package jobs: New (printed by genloc6.py). -/
namespace Go.Proofs.YtooeeiiiflfckaaGreat
open Go.RowKit
theorem infoRunP : (Tryz.prog.info? 141).map (fun i => (i.zero, i.size, i.bytes)) = some (some (.pointer none), 1, 8) := by kernel_rfl
def newL (idx : Int) (p : Part) : LSt := ⟨idx, p.level, p.tasks.map (fun t => ⟨t, ⟨-1, []⟩, 0⟩), []⟩
def alone (p : Part) : Config := ⟨1, 1, [p], [], []⟩
def newBad (idx : Int) (p : Part) : Bool := decide (idx < 0 ∨ 8 <= idx ∨ checkCfg (alone p) ≠ 0)
theorem check_parts {c : Config} (h : checkCfg c = 0) : (1 <= c.frame /\ c.frame <= 256 /\ 1 <= c.quiet /\ c.quiet <= 16) /\ (1 <= c.parts.length /\ c.parts.length <= 8) /\ (∀ p ∈ c.parts, levelMay p = true /\ tasksMay p = true /\ codeMay p.code = true) /\ windowsMay c = true /\ c.ports.length <= 8 /\ ∀ x ∈ c.ports, portMay c.parts x = true := by
 unfold checkCfg at h
 by_cases h1 : c.frame < 1 ∨ c.frame > 256 ∨ c.quiet < 1 ∨ c.quiet > 16
 ·rw [if_pos h1] at h; simp at h
 rw [if_neg h1] at h
 by_cases h2 : c.parts.length < 1 ∨ c.parts.length > 8 ∨ c.parts.any (fun p => !levelMay p) = true
 ·rw [if_pos h2] at h; simp at h
 rw [if_neg h2] at h
 by_cases h3 : c.parts.any (fun p => !tasksMay p) = true
 ·rw [if_pos h3] at h; simp at h
 rw [if_neg h3] at h
 by_cases h4 : windowsMay c = false
 ·rw [if_pos h4] at h; simp at h
 rw [if_neg h4] at h
 by_cases h5 : c.ports.length > 8 ∨ c.ports.any (fun p => !portMay c.parts p) = true
 ·rw [if_pos h5] at h; simp at h
 rw [if_neg h5] at h
 by_cases h6 : c.parts.any (fun p => !codeMay p.code) = true
 ·rw [if_pos h6] at h; simp at h
 simp only [not_or, Bool.not_eq_true, List.any_eq_false, Bool.not_eq_true', Bool.not_eq_false] at h2 h3 h5 h6
 refine ⟨by omega, by omega, fun p hp => ⟨h2.2.2 p hp, h3 p hp, h6 p hp⟩, by simpa using h4, by omega, fun x hx => h5.2 x hx⟩
theorem tasksFrom_may {l : Int} {ts : List Task} : ∀ {k : Nat} {r : List Task}, tasksFrom l ts k r = true -> ∀ t ∈ r, taskMay t = true /\ (l = 0 -> t.chigh = t.clow) := by
 intro k r
 induction r generalizing k with
 | nil => intro _ t ht; cases ht
 | cons x r ih =>
  intro h t ht
  unfold tasksFrom at h
  simp only [Bool.and_eq_true, Bool.not_eq_true', Bool.and_eq_false_iff, decide_eq_false_iff_not] at h
  rcases List.mem_cons.1 ht with rfl | ht
  ·refine ⟨h.1.1.1, fun hl => ?_⟩
   rcases h.1.1.2 with h | h
   ·exact absurd hl h
   ·simpa using h
  ·exact ih h.2 t ht
theorem tasksMay_iff {p : Part} (h : tasksMay p = true) : p.tasks.length <= 6 /\ ∀ t ∈ p.tasks, taskMay t = true /\ (p.level = 0 -> t.chigh = t.clow) := by
 unfold tasksMay at h
 simp only [Bool.and_eq_true, decide_eq_true_eq] at h
 exact ⟨h.1, tasksFrom_may h.2⟩
theorem newL_wf {idx : Int} {p : Part} (h : newBad idx p = false) : LWf (newL idx p) 0 := by
 unfold newBad at h
 simp only [decide_eq_false_iff_not, not_or, Int.not_lt, Int.not_le, ne_eq, Decidable.not_not] at h
 have hp := (check_parts h.2.2).2.2.1 p (by simp [alone])
 have ht := tasksMay_iff hp.2.1
 have hl := hp.1
 unfold levelMay at hl
 simp only [decide_eq_true_eq] at hl
 refine ⟨by unfold newL; simp only; omega, hl, fun r hr => ?_, by simpa [newL] using ht.1, by unfold newL jobsMay; simp, fun j hj => by unfold newL at hj; cases hj⟩
 unfold newL at hr
 simp only [List.mem_map] at hr
 obtain ⟨t, htm, rfl⟩ := hr
 refine ⟨?_, by simp, by simp⟩
 unfold pairMay
 simp [(ht.2 t htm).1]
structure NewT (w wr : World) (b : Nat) (r : Value) (n : Nat) (xs : List Value) (rc : Array Value) (idx lvl : Int) (jv : Value) (PV : Nat -> Value -> Prop) (L : Nat -> Bool) (vs : Nat -> Value) (W : World) : Prop where
 pv : ∀ i, L i = true -> PV i (vs i)
 below : Below w.heap.size w W
 keep : ∀ k t, Typed wr k t -> t ≠ 141 -> k ≠ b -> W.heap[k]? = wr.heap[k]?
 size : wr.heap.size <= W.heap.size
 row0 : L 10 = false -> W.ownsRow w.heap.size 141 1 r n xs
 box : L 8 = true -> ∃ g, vs 8 = .pointer (some ⟨g, 0, none⟩) /\ wr.heap.size <= g /\ W.heap[g]? = some (.cells rc 145 (0, 0))
 sl : L 9 = true -> L 10 = false -> ∃ g, vs 9 = .slice (some ⟨g, 0, none⟩) 1 1 /\ W.heap[g]? = some (.cells #[vs 8] 141 (0, 0))
 row1 : L 10 = true -> W.ownsRow w.heap.size 141 1 (vs 10) (n + 1) (xs ++ [vs 8])
 cell : W.heap[b]? = some (.cells #[.int .i64 idx, .int .i64 lvl, if L 13 = true then vs 10 else r, jv] 140 (0, 0))
def NtV (b : Nat) (ra : Option Addr) (k rcc : Nat) (t : Task) (a : Nat) (v : Value) : Prop := match a with
 | 0 => v = .pointer (some ⟨b, 0, none⟩)
 | 1 => v = .pointer (some ⟨b, 0, none⟩)
 | 2 => v = .pointer (some ⟨b, 0, none⟩)
 | 3 => v = .pointer (some ⟨b, 2, none⟩)
 | 4 => v = .slice ra k rcc
 | 5 => v = .agg #[.int .i64 t.kind, .int .i64 t.period, .int .i64 t.deadline, .int .i64 t.clow, .int .i64 t.chigh, .int .i64 t.prio]
 | 6 => v = .agg #[.int .i64 (-1), .slice none 0 0]
 | 7 => v = .agg #[.int .i64 t.kind, .int .i64 t.period, .int .i64 t.deadline, .int .i64 t.clow, .int .i64 t.chigh, .int .i64 t.prio, .int .i64 (-1), .slice none 0 0, .int .i64 0]
 | 11 => v = .pointer (some ⟨b, 0, none⟩)
 | 12 => v = .pointer (some ⟨b, 2, none⟩)
 | _ => True
theorem LocAt.addRun {W W' : World} {b lo : Nat} {ps : List Nat} {F : Nat -> Prop} {S : LSt} (h : LocAt W b lo ps F S) {g : Nat} {tv' : Value} {r : TRun} {tv0 jv : Value} (hlo : lo <= W.heap.size) (hj : S.js = []) (hc0 : W.heap[b]? = some (.cells #[.int .i64 S.idx, .int .i64 S.lvl, tv0, jv] 140 (0, 0))) (hjv : JobsV W jv []) (hjs : SlIn W F jv 124)
  (hg1 : W.heap.size <= g) (hg2 : W'.heap[g]? = some (.cells (runCells r (.slice none 0 0)) 145 (0, 0))) (hp : r.s.picks = [])
  (hc : W'.heap[b]? = some (.cells #[.int .i64 S.idx, .int .i64 S.lvl, tv', jv] 140 (0, 0)))
  (hr : W'.ownsRow lo 141 1 tv' (ps.length + 1) (ps.map ptrV ++ [ptrV g]))
  (hk : ∀ k t, Typed W k t -> t ≠ 141 -> k ≠ b -> W'.heap[k]? = W.heap[k]?) :
  LocAt W' b lo (ps ++ [g]) (fun k => (F k /\ ¬ Typed W k 141) ∨ k = g ∨ tv'.ownBlock = some k) { S with rs := S.rs ++ [r] } := by
 have hpt : ∀ i (h1 : i < ps.length), Typed W ps[i] 145 := fun i h1 => by
  obtain ⟨pv, q, -⟩ := h.runs i h1 (by rw [<- h.len]; exact h1)
  exact ⟨_, q⟩
 have hbn : ¬ Typed W b 141 := fun q => by
  obtain ⟨tv, jv, c1, -⟩ := h.cell
  exact typed_ne q ⟨_, c1⟩ (by decide) rfl
 refine ⟨.inl ⟨h.fb, hbn⟩, ?_, ?_, by simp [h.len], ?_, ?_, ⟨tv', jv, hc, ?_, ?_, ?_, ?_⟩, ?_⟩
 ·rintro k (⟨hf, -⟩ | rfl | hf)
  ·exact h.fl k hf
  ·omega
  ·exact (hr.lt k hf).1
 ·rintro k (⟨hf, hnt⟩ | rfl | hf)
  ·by_cases hkb : k = b
   ·subst hkb; exact .inl ⟨_, hc⟩
   ·rcases h.ty k hf with q | q | q | q | q
    ·exact .inl (q.far (hk k _ q (by decide) hkb))
    ·exact .inr (.inl (q.far (hk k _ q (by decide) hkb)))
    ·exact absurd q hnt
    ·exact .inr (.inr (.inr (.inl (q.far (hk k _ q (by decide) hkb)))))
    ·exact .inr (.inr (.inr (.inr (q.far (hk k _ q (by decide) hkb)))))
  ·exact .inr (.inl ⟨_, hg2⟩)
  ·exact .inr (.inr (.inl (own_typed hr hf)))
 ·intro p hp
  rcases List.mem_append.1 hp with hp | hp
  ·obtain ⟨i, hi, rfl⟩ := List.getElem_of_mem hp
   exact .inl ⟨h.fp _ hp, fun q => typed_ne q (hpt i hi) (by decide) rfl⟩
  ·simp only [List.mem_singleton] at hp
   exact .inr (.inl hp)
 ·refine List.nodup_append.2 ⟨h.ne, by simp, fun a ha c hc => ?_⟩
  simp only [List.mem_singleton] at hc
  subst hc
  have := h.lt (h.fp a ha)
  omega
 ·simpa using hr
 ·exact (SlIn.own hr).mono (fun k hk => .inr (.inr hk))
 ·rw [show ({ S with rs := S.rs ++ [r] } : LSt).js = [] from hj]
  obtain ⟨a, cap, e, q1, q2, q3, -⟩ := hjv
  exact ⟨a, cap, e, q1, q2, q3, fun h => absurd rfl h⟩
 ·intro a n cap e
  have q := hjs a n cap e
  refine ⟨.inl ⟨q.1, fun q' => typed_ne q.2 q' (by decide) rfl⟩, q.2.far (hk _ _ q.2 (by decide) (fun e => ?_))⟩
  have q2 := q.2
  rw [e] at q2
  exact typed_ne q2 ⟨_, hc0⟩ (by decide) rfl
 ·intro i h1 h2
  simp only [List.length_append, List.length_singleton] at h1 h2
  by_cases hi : i < ps.length
  ·have hi' : i < S.rs.length := by rw [<- h.len]; exact hi
   simp only [List.getElem_append_left hi, List.getElem_append_left hi']
   have hne : ps[i] ≠ b := fun e => by
    obtain ⟨tv, jv, c1, -⟩ := h.cell
    have := hpt i hi
    rw [e] at this
    exact typed_ne this ⟨_, c1⟩ (by decide) rfl
   have hki : ∀ k, Typed W k 3 -> W'.heap[k]? = W.heap[k]? := fun k q => hk k _ q (by decide) (fun e => by
    obtain ⟨tv, jv, c1, -⟩ := h.cell
    rw [e] at q
    exact typed_ne q ⟨_, c1⟩ (by decide) rfl)
   obtain ⟨pv, q1, q2, q3⟩ := h.runs i hi hi'
   exact ⟨pv, (hk _ _ (hpt i hi) (by decide) hne).trans q1, IntsV.far q2 (fun a n cap e => hki _ (q3 a n cap e).2), fun a n cap e => ⟨.inl ⟨(q3 a n cap e).1, fun q => typed_ne (q3 a n cap e).2 q (by decide) rfl⟩, (q3 a n cap e).2.far (hki _ (q3 a n cap e).2)⟩⟩
  ·have e1 : i = ps.length := by omega
   have e2 : i = S.rs.length := by rw [<- h.len]; exact e1
   have q1 : (ps ++ [g])[i] = g := by simp [e1]
   have q2 : (S.rs ++ [r])[i]'(by simpa using h2) = r := by simp [e2]
   simp only [q1, q2]
   refine ⟨.slice none 0 0, hg2, by rw [hp]; exact slice0 _ _ _ _, fun a n cap e => by cases e⟩
set_option maxRecDepth 100000 in
set_option maxHeartbeats 4000000 in
theorem new_any (idx : Int) (p : Part) (tv cv : Value) (w : World) (hp : PartIs w tv cv p) :
  Calls Tryz.prog 39 #[.int .i64 idx, .agg #[.int .i64 p.level, tv, cv]] w fun e w' => (newBad idx p = true -> e = .returned (.tuple #[.pointer none, .int .i64 1400])) /\ (newBad idx p = false -> ∃ b ps F, e = .returned (.tuple #[.pointer (some ⟨b, 0, none⟩), .int .i64 0]) /\ LocAt w' b w.heap.size ps F (newL idx p)) /\ Below w.heap.size w w' := by
 obtain ⟨ta, tc, htv⟩ : ∃ a c, tv = .slice a p.tasks.length c := by obtain ⟨a, c, e, -⟩ := hp.tasks; exact ⟨a, c, e⟩
 obtain ⟨n, hn⟩ : ∃ n, n = p.tasks.length := ⟨_, rfl⟩
 rw [<- hn] at htv
 subst htv
 obtain ⟨lvl, hlv⟩ : ∃ lvl, lvl = p.level := ⟨_, rfl⟩
 have HP := Lib.hid hp
 have HLV := Lib.hid (And.intro hlv hn)
 rw [<- hlv]
 obtain ⟨wa, ga, hw_wa, hg_ga, hb_wa, hk_ga, hs_wa⟩ := alloc_all w (.cells #[.int .i64 lvl, .slice ta n tc, cv] 49)
 obtain ⟨wb, gb, hw_wb, hg_gb, hb_wb, hk_gb, hs_wb⟩ := alloc_all wa (.cells #[.int .i64 lvl, .slice ta n tc, cv] 49)
 obtain ⟨wc, gc, hw_wc, hg_gc, hb_wc, hk_gc, hs_wc⟩ := alloc_all wb (.cells #[.int .i64 1, .int .i64 1, .slice (some ⟨gb, 0, none⟩) 1 1, .slice none 0 0, .slice none 0 0] 26)
 have HBC := Lib.hid (bthen hb_wa (bthen hb_wb hb_wc))
 have HCF := Lib.hid (show CfgV wc (.agg #[.int .i64 1, .int .i64 1, .slice (some ⟨gb, 0, none⟩) 1 1, .slice none 0 0, .slice none 0 0]) (alone p) from ⟨_, _, _, rfl, ⟨slice1 (by decide) ⟨by rw [<- hlv]; exact Ext.below hb_wc _ _ (BlockIs.of hk_gb 0 _ rfl), _, _, Ext.below hb_wc _ _ (BlockIs.of hk_gb 1 _ rfl), Ext.below hb_wc _ _ (BlockIs.of hk_gb 2 _ rfl), hp.ext (Ext.below HBC.out)⟩, slice0 _ _ _ _, slice0 _ _ _ _⟩⟩)
 have HKA := Lib.hid (keep_at (keep_at hk_ga hb_wb) hb_wc)
 have a0 := BlockIs.of HKA.out 0 _ rfl
 have a1 := BlockIs.of HKA.out 1 _ rfl
 have a2 := BlockIs.of HKA.out 2 _ rfl
 have c0 := BlockIs.of hk_gc 0 _ rfl
 have c1 := BlockIs.of hk_gc 1 _ rfl
 have c2 := BlockIs.of hk_gc 2 _ rfl
 have c3 := BlockIs.of hk_gc 3 _ rfl
 have c4 := BlockIs.of hk_gc 4 _ rfl
 have e0 := BlockIs.of hk_ga 0 _ rfl
 have e1 := BlockIs.of hk_ga 1 _ rfl
 have e2 := BlockIs.of hk_ga 2 _ rfl
 subst hg_ga
 rw [hs_wa] at hg_gb hs_wb
 rw [hs_wb] at hg_gc
 subst hg_gb
 subst hg_gc
 clear hp hlv hn hb_wa hb_wb hb_wc hk_ga hk_gb hk_gc
 have BAD : newBad idx p = true -> ∀ (e : Ending) (w' : World), e = .returned (.tuple #[.pointer none, .int .i64 1400]) -> Below w.heap.size w w' -> (newBad idx p = true -> e = .returned (.tuple #[.pointer none, .int .i64 1400])) /\ (newBad idx p = false -> ∃ b ps F, e = .returned (.tuple #[.pointer (some ⟨b, 0, none⟩), .int .i64 0]) /\ LocAt w' b w.heap.size ps F (newL idx p)) /\ Below w.heap.size w w' := fun h e w' he hb => ⟨fun _ => he, fun h' => (by rw [h] at h'; cases h'), hb⟩
 have BAD := Lib.hid BAD
 by_cases d0 : idx < 0
 ·have HN := Lib.hid (show newBad idx p = true by unfold newBad; rw [decide_eq_true_iff]; exact .inl d0)
  go_enter Tryz.func39, Tryz.ntmps39
  go_wp2_with (rw [<- hw_wa, <- hw_wb, <- hw_wc]; clear hw_wa hw_wb hw_wc)
  go_ret2
  exact BAD.out HN.out _ _ rfl HBC.out
 ·by_cases d1 : 8 <= idx
  ·have HN := Lib.hid (show newBad idx p = true by unfold newBad; rw [decide_eq_true_iff]; exact .inr (.inl d1))
   go_enter Tryz.func39, Tryz.ntmps39
   go_wp2_with (rw [<- hw_wa, <- hw_wb, <- hw_wc]; clear hw_wa hw_wb hw_wc)
   go_ret2
   have h1 := HBC.out
   exact ⟨fun _ => rfl, fun h => absurd (HN.out.symm.trans h) (by decide), h1⟩
  ·go_enter Tryz.func39, Tryz.ntmps39
   go_wp2_with (rw [<- hw_wa, <- hw_wb, <- hw_wc]; clear hw_wa hw_wb hw_wc)
   refine (check_any (alone p) _ wc HCF.out).mono ?_
   rintro e w1 ⟨rfl, hb1⟩
   have HB1 := Lib.hid (bthen HBC.out hb1)
   have HKA1 := Lib.hid (keep_at HKA.out hb1)
   have HP1 := Lib.hid (HP.out.ext (Ext.below HB1.out))
   clear a0 a1 a2 c0 c1 c2 c3 c4 e0 e1 e2 hb1 hs_wa hs_wb hs_wc
   obtain ⟨ce, hce⟩ : ∃ ce, ce = checkCfg (alone p) := ⟨_, rfl⟩
   rw [<- hce]
   have HCE := Lib.hid hce
   clear hce
   by_cases d2 : ce = 0
   rotate_left
   ·have HN := Lib.hid (show newBad idx p = true by unfold newBad; rw [decide_eq_true_iff, <- HCE.out]; exact .inr (.inr d2))
    have d2' : (ce == 0) = false := by simpa using d2
    clear d2
    go_wp2_with fail
    go_ret2
    exact BAD.out HN.out _ _ rfl HB1.out
   ·subst d2
    have HN := Lib.hid (show newBad idx p = false by unfold newBad; rw [decide_eq_false_iff_not, <- HCE.out]; omega)
    have hn6 : n <= 6 := by
     rw [HLV.out.2]
     exact (tasksMay_iff ((check_parts HCE.out.symm).2.2.1 p (by simp [alone])).2.1).1
    obtain ⟨wd, b, hw_wd, hg_b, hb_wd, hk_b, hs_wd⟩ := alloc_all w1 (.cells #[.int .i64 idx, .int .i64 lvl, .slice none 0 0, .slice none 0 0] 140)
    have HBD := Lib.hid (bthen HB1.out hb_wd)
    have HBL := Lib.hid (show w.heap.size <= b by rw [hg_b]; exact HB1.out.size)
    have HL0 := Lib.hid (show LocAt wd b w.heap.size [] (fun k => k = b) (newL idx { p with tasks := p.tasks.take 0 }) from by
     refine ⟨rfl, fun k hk => by rw [hk]; exact HBL.out, fun k hk => .inl (hk ▸ ⟨_, hk_b⟩), rfl, fun p hp => (by cases hp), List.nodup_nil, ⟨_, _, by rw [HLV.out.1] at hk_b; exact hk_b, World.ownsRow_nil _ _ _ _, fun a n cap e => by (cases e), slice0 _ _ _ _, fun a n cap e => by (cases e)⟩, fun i h1 h2 => absurd h1 (by simp)⟩)
    have a1 := BlockIs.of HKA1.out 1 _ rfl
    have a0 := BlockIs.of HKA1.out 0 _ rfl
    have a1' := Ext.below hb_wd _ _ a1
    have HKAD := Lib.hid (keep_at HKA1.out hb_wd)
    have HPD := Lib.hid (HP1.out.ext (Ext.below hb_wd))
    clear hb_wd hk_b hs_wd
    go_wp2_with (rw [<- hw_wd, <- hg_b]; clear hw_wd)
    clear a0 a1 a1' hg_b
    go_loopw [32] (fun i wr => ∃ (k : Nat) (ps : List Nat) (F : Nat -> Prop), k <= n /\ i = .int .i64 k /\ ps.length = k /\ Hid (LocAt wr b w.heap.size ps F (newL idx { p with tasks := p.tasks.take k })) /\ Hid (Below w.heap.size w wr) /\ Hid (Below wd.heap.size wd wr ∨ True)) (fun i _ => n - (intOf i).toNat)
    case atStart => exact ⟨0, [], _, by omega, rfl, rfl, HL0, HBD, Lib.hid (.inr trivial)⟩
    case round =>
     obtain ⟨k, ps, F, hk, rfl, hps, HL, HB, -⟩ := hrel
     by_cases hlt : k < n
     ·have hlt' : k < p.tasks.length := by rw [<- HLV.out.2]; exact hlt
      obtain ⟨t, ht⟩ : ∃ t, t = p.tasks[k] := ⟨_, rfl⟩
      obtain ⟨q, off, ec, z0, z1, z2, z3, z4, z5⟩ : ∃ q off, Value.slice ta n tc = .slice (some ⟨q, off, none⟩) n tc /\ TaskAt wr q (off + k * 6) t := by
       obtain ⟨a, c, e, -, -, -, hq⟩ := (HP.out.ext (Ext.below HB.out)).tasks
       obtain ⟨q, off, e2, hq2⟩ := hq (by intro h; rw [h] at hlt'; simp at hlt')
       injection e with e _ e3
       exact ⟨q, off, by rw [e, e2], by rw [ht]; exact hq2 k hlt'⟩
      injection ec with ec _ _
      subst ec
      unfold IntAt at z0 z1 z2 z3 z4 z5
      obtain ⟨wt, gt, hw_wt, hg_gt, hb_wt, hk_gt, hs_wt⟩ := alloc_all wr (.cells #[.int .i64 t.kind, .int .i64 t.period, .int .i64 t.deadline, .int .i64 t.clow, .int .i64 t.chigh, .int .i64 t.prio] 51)
      subst hg_gt
      obtain ⟨r, jv, c1, c2, c3, c4, c5⟩ := (HL.out.keep hb_wt).cell
      have HLT := Lib.hid (HL.out.keep hb_wt)
      have HBT := Lib.hid (bthen HB.out hb_wt)
      have HKT := Lib.hid hk_gt
      have HTB := Lib.hid (show wr.heap.size ≠ b by have := HL.out.lt HL.out.fb; omega)
      have HDF := Lib.hid (And.intro ht (And.intro hlt' hps))
      obtain ⟨xs, hxs⟩ : ∃ xs, xs = ps.map ptrV := ⟨_, rfl⟩
      have HXS := Lib.hid hxs
      rw [<- hxs, hps] at c2
      obtain ⟨ra, rcc, hrs⟩ := own_shape c2
      subst hrs
      have HRW := Lib.hid c2
      have HJ4 := Lib.hid (And.intro c4 (And.intro c3 c5))
      have HCB := Lib.hid (show wt.heap[b]? = some (.cells #[.int .i64 idx, .int .i64 lvl, .slice ra k rcc, jv] 140 (0, 0)) by rw [HLV.out.1]; exact c1)
      have x2 := BlockIs.of HCB.out 2 _ rfl
      clear ht hb_wt hk_gt hs_wt c1 c2 c3 c4 c5 hxs hps
      go_wp2_with (rw [<- hw_wt]; clear hw_wt z0 z1 z2 z3 z4 z5)
      refine region_inv0 rfl (by kernel_rfl) (NewT w wt b (.slice ra k rcc) k xs (#[.int .i64 t.kind, .int .i64 t.period, .int .i64 t.deadline, .int .i64 t.clow, .int .i64 t.chigh, .int .i64 t.prio, .int .i64 (-1), .slice none 0 0, .int .i64 0]) idx lvl jv (NtV b ra k rcc t)) (fun vs h0 => ⟨(fun i h => by cases h), below_drew HBT.out, (fun k t h _ _ => rfl), (Nat.le_refl _), (fun _ => HRW.out), (fun h => by cases h), (fun h => by cases h), (fun h => by cases h), HCB.out⟩) ?_ ?_
      ·simp (config := { maxSteps := 4000000 }) only [List.map, putAll, Act.put, InvE, List.setIfInBounds_toArray, List.set_cons_succ, List.set_cons_zero, Nat.reduceAdd]
       refine ⟨?_, ?_, ?_, ?_, ?_, ?_, ?_, ?_, ?_, ?_, ?_, ?_, ?_, ?_, trivial⟩
       all_goals
        intro L vs W hI hi hn hcl K hK
        rw [if_pos (by simp [Region.wanted])]
       ·have HK := Lib.hid (fun (v : Value) (h : v = .pointer (some ⟨b, 0, none⟩)) => hK v W ⟨pv_upd hI.pv h, hI.below, hI.keep, hI.size, hI.row0, hI.box, hI.sl, hI.row1, hI.cell⟩)
        clear hK hI hn hcl hi
        go_simp
        exact HK.out _ rfl
       ·have HK := Lib.hid (fun (v : Value) (h : v = .pointer (some ⟨b, 0, none⟩)) => hK v W ⟨pv_upd hI.pv h, hI.below, hI.keep, hI.size, hI.row0, hI.box, hI.sl, hI.row1, hI.cell⟩)
        clear hK hI hn hcl hi
        go_simp
        exact HK.out _ rfl
       ·have r1 : vs 1 = _ := hI.pv 1 (hn 1 rfl)
        simp only [r1] at hK |-
        have HK := Lib.hid (fun (v : Value) (h : v = .pointer (some ⟨b, 0, none⟩)) => hK v W ⟨pv_upd hI.pv h, hI.below, hI.keep, hI.size, hI.row0, hI.box, hI.sl, hI.row1, hI.cell⟩)
        clear hK hI hn hcl hi
        go_simp
        exact HK.out _ rfl
       ·have r2 : vs 2 = _ := hI.pv 2 (hn 2 rfl)
        simp only [r2] at hK |-
        have HK := Lib.hid (fun (v : Value) (h : v = .pointer (some ⟨b, 2, none⟩)) => hK v W ⟨pv_upd hI.pv h, hI.below, hI.keep, hI.size, hI.row0, hI.box, hI.sl, hI.row1, hI.cell⟩)
        clear hK hI hn hcl hi
        go_simp
        exact HK.out _ rfl
       ·have r3 : vs 3 = _ := hI.pv 3 (hn 3 rfl)
        have h13n : L 13 = false := by
         cases h : L 13
         ·rfl
         ·exact absurd (hcl 10 _ rfl (hcl 13 _ rfl h 10 rfl) 4 rfl) (Bool.eq_false_iff.1 hi)
        have hc := hI.cell
        rw [h13n] at hc
        simp only [Bool.false_eq_true, if_false] at hc
        have y2 := BlockIs.of hc 2 _ rfl
        clear hc h13n
        simp only [r3] at hK |-
        have HK := Lib.hid (fun (v : Value) (h : v = .slice ra k rcc) => hK v W ⟨pv_upd hI.pv h, hI.below, hI.keep, hI.size, hI.row0, hI.box, hI.sl, hI.row1, hI.cell⟩)
        clear hK hI hn hcl hi
        go_simp
        exact HK.out _ rfl
       ·have h8n : L 8 = false := by
         cases h : L 8
         ·rfl
         ·exact absurd (hcl 7 _ rfl (hcl 8 _ rfl h 7 rfl) 5 rfl) (Bool.eq_false_iff.1 hi)
        have hk : W.heap[wr.heap.size]? = some (.cells #[.int .i64 t.kind, .int .i64 t.period, .int .i64 t.deadline, .int .i64 t.clow, .int .i64 t.chigh, .int .i64 t.prio] 51 (0, 0)) := (hI.keep wr.heap.size _ ⟨_, HKT.out⟩ (by decide) HTB.out).trans HKT.out
        have z0 := BlockIs.of hk 0 _ rfl
        have z1 := BlockIs.of hk 1 _ rfl
        have z2 := BlockIs.of hk 2 _ rfl
        have z3 := BlockIs.of hk 3 _ rfl
        have z4 := BlockIs.of hk 4 _ rfl
        have z5 := BlockIs.of hk 5 _ rfl
        clear hk h8n
        have HK := Lib.hid (fun (v : Value) (h : v = .agg #[.int .i64 t.kind, .int .i64 t.period, .int .i64 t.deadline, .int .i64 t.clow, .int .i64 t.chigh, .int .i64 t.prio]) => hK v W ⟨pv_upd hI.pv h, hI.below, hI.keep, hI.size, hI.row0, hI.box, hI.sl, hI.row1, hI.cell⟩)
        clear hK hI hn hcl hi
        go_simp
        exact HK.out _ rfl
       ·have HK := Lib.hid (fun (v : Value) (h : v = .agg #[.int .i64 (-1), .slice none 0 0]) => hK v W ⟨pv_upd hI.pv h, hI.below, hI.keep, hI.size, hI.row0, hI.box, hI.sl, hI.row1, hI.cell⟩)
        clear hK hI hn hcl hi
        go_simp
        exact HK.out _ rfl
       ·have r5 : vs 5 = _ := hI.pv 5 (hn 5 rfl)
        have r6 : vs 6 = _ := hI.pv 6 (hn 6 rfl)
        simp only [r5, r6] at hK |-
        have HK := Lib.hid (fun (v : Value) (h : v = .agg #[.int .i64 t.kind, .int .i64 t.period, .int .i64 t.deadline, .int .i64 t.clow, .int .i64 t.chigh, .int .i64 t.prio, .int .i64 (-1), .slice none 0 0, .int .i64 0]) => hK v W ⟨pv_upd hI.pv h, hI.below, hI.keep, hI.size, hI.row0, hI.box, hI.sl, hI.row1, hI.cell⟩)
        clear hK hI hn hcl hi
        go_simp
        exact HK.out _ rfl
       ·have r7 : vs 7 = _ := hI.pv 7 (hn 7 rfl)
        have h9n : L 9 = false := by
         cases h : L 9
         ·rfl
         ·exact absurd (hcl 9 _ rfl h 8 rfl) (Bool.eq_false_iff.1 hi)
        have h10n : L 10 = false := by
         cases h : L 10
         ·rfl
         ·exact absurd (hcl 9 _ rfl (hcl 10 _ rfl h 9 rfl) 8 rfl) (Bool.eq_false_iff.1 hi)
        have h13n : L 13 = false := by
         cases h : L 13
         ·rfl
         ·exact absurd (hcl 9 _ rfl (hcl 10 _ rfl (hcl 13 _ rfl h 10 rfl) 9 rfl) 8 rfl) (Bool.eq_false_iff.1 hi)
        simp only [r7] at hK |-
        have HK := Lib.hid hK
        have HI := Lib.hid hI
        have HF := Lib.hid (And.intro h9n (And.intro h10n h13n))
        clear hK hI hn hcl hi h9n h10n h13n
        go_simp
        have hb := balloc W (.cells #[.int .i64 t.kind, .int .i64 t.period, .int .i64 t.deadline, .int .i64 t.clow, .int .i64 t.chigh, .int .i64 t.prio, .int .i64 (-1), .slice none 0 0, .int .i64 0] 145)
        refine HK.out _ _ ⟨pv_upd HI.out.pv trivial, bthen HI.out.below hb, (fun k t h h1 h2 => (hb.block k (Nat.lt_of_lt_of_le h.lt HI.out.size)).trans (HI.out.keep k t h h1 h2)), Nat.le_trans HI.out.size hb.size, (fun q => Below.kept (HI.out.row0 q) hb), (fun _ => ⟨W.heap.size, rfl, HI.out.size, blk_new _ _⟩), (fun q => absurd q (Bool.eq_false_iff.1 HF.out.1)), (fun q => absurd q (Bool.eq_false_iff.1 HF.out.2.1)), ?_⟩
        have hc := HI.out.cell
        rw [HF.out.2.2] at hc
        show (W.alloc _).heap[b]? = _
        rw [show updB L 8 13 = L 13 from rfl, HF.out.2.2]
        exact keep_at hc hb
       ·have h10n : L 10 = false := by
         cases h : L 10
         ·rfl
         ·exact absurd (hcl 10 _ rfl h 9 rfl) (Bool.eq_false_iff.1 hi)
        have h13n : L 13 = false := by
         cases h : L 13
         ·rfl
         ·exact absurd (hcl 10 _ rfl (hcl 13 _ rfl h 10 rfl) 9 rfl) (Bool.eq_false_iff.1 hi)
        have h8 : L 8 = true := hn 8 rfl
        obtain ⟨g, e8, hg1, hg2⟩ := hI.box h8
        simp only [e8] at hK |-
        have HK := Lib.hid hK
        have HI := Lib.hid hI
        have HE8 := Lib.hid e8
        have HG := Lib.hid (And.intro hg1 hg2)
        have HF := Lib.hid (And.intro h10n h13n)
        clear hK hI hn hcl hi h8 e8 hg1 hg2 h10n h13n
        go_simp
        have hb := balloc W (.cells #[.pointer (some ⟨g, 0, none⟩)] 141)
        refine HK.out _ _ ⟨pv_upd HI.out.pv trivial, bthen HI.out.below hb, (fun k t h h1 h2 => (hb.block k (Nat.lt_of_lt_of_le h.lt HI.out.size)).trans (HI.out.keep k t h h1 h2)), Nat.le_trans HI.out.size hb.size, (fun q => Below.kept (HI.out.row0 q) hb), (fun _ => ⟨g, HE8.out, HG.out.1, keep_at HG.out.2 hb⟩), (fun _ _ => ⟨W.heap.size, rfl, by rw [show upd vs 9 _ 8 = vs 8 from rfl, HE8.out]; exact blk_new _ _⟩), (fun q => absurd q (Bool.eq_false_iff.1 HF.out.1)), ?_⟩
        have hc := HI.out.cell
        rw [HF.out.2] at hc
        show (W.alloc _).heap[b]? = _
        rw [show updB L 9 13 = L 13 from rfl, HF.out.2]
        exact keep_at hc hb
       ·have r4 : vs 4 = _ := hI.pv 4 (hn 4 rfl)
        have h13n : L 13 = false := by
         cases h : L 13
         ·rfl
         ·exact absurd (hcl 13 _ rfl h 10 rfl) (Bool.eq_false_iff.1 hi)
        have h8 : L 8 = true := hcl 9 _ rfl (hn 9 rfl) 8 rfl
        obtain ⟨g, e8, hg1, hg2⟩ := hI.box h8
        obtain ⟨g9, e9, hk9⟩ := hI.sl (hn 9 rfl) hi
        have hr : W.ownsRow w.heap.size 141 1 (.slice ra k rcc) k xs := hI.row0 hi
        rw [e8] at hk9
        have hsrc : Src W (vs 9) 1 [.pointer (some ⟨g, 0, none⟩)] := .inr ⟨⟨g9, 0, none⟩, 1, e9, fun j u hu => by rw [addr_add]; have h := BlockIs.of hk9 j u (by simpa using hu); simpa using h⟩
        refine wp_onto _ (.tmp 40) (.tmp 45) 138 rfl w.heap.size 141 _ 1 8 Tryz.underlying138 infoRunP rfl (by decide) (.slice ra k rcc) k _ (hI.pv 4 (hn 4 rfl)) hr 1 [.pointer (some ⟨g, 0, none⟩)] hsrc rfl (by simp [Value.oneCell']) (by simp only [maxLen]; omega) (by omega) hI.below.size ?_
        intro v' w' ho hg3
        have hty : ∀ q, (Value.slice ra k rcc).ownBlock = some q -> Typed W q 141 := fun q h => own_typed hr h
        have hne : ∀ k' t, Typed W k' t -> t ≠ 141 -> (Value.slice ra k rcc).ownBlock ≠ some k' := fun k' t h h1 q => typed_ne h (hty k' q) h1 rfl
        have hkb := hI.cell
        rw [h13n] at hkb
        refine hK v' w' ⟨pv_upd hI.pv trivial, hI.below.grown hg3 hI.below.size (fun q hq => (hr.lt q hq).1), (fun k t h h1 h2 => ?_), Nat.le_trans hI.size hg3.size, (fun q => absurd q (by simp [updB])), (fun _ => ⟨g, e8, hg1, typed_apart hg2 hg3 hty (by decide)⟩), (fun _ q => absurd q (by simp [updB])), (fun _ => ?_), ?_⟩
        ·have h3 := hI.keep k t h h1 h2
         have h4 : Typed W k t := h.far h3
         exact (hg3.block k h4.lt (fun q => hne k t h4 h1 q.symm)).trans h3
        ·rw [show upd vs 10 v' 8 = vs 8 from rfl, e8]
         exact ho
        ·rw [show updB L 10 13 = L 13 from rfl, h13n]
         exact typed_apart hkb hg3 hty (by decide)
       ·have r0 : vs 0 = _ := hI.pv 0 (hn 0 rfl)
        simp only [r0] at hK |-
        have HK := Lib.hid (fun (v : Value) (h : v = .pointer (some ⟨b, 0, none⟩)) => hK v W ⟨pv_upd hI.pv h, hI.below, hI.keep, hI.size, hI.row0, hI.box, hI.sl, hI.row1, hI.cell⟩)
        clear hK hI hn hcl hi
        go_simp
        exact HK.out _ rfl
       ·have r11 : vs 11 = _ := hI.pv 11 (hn 11 rfl)
        simp only [r11] at hK |-
        have HK := Lib.hid (fun (v : Value) (h : v = .pointer (some ⟨b, 2, none⟩)) => hK v W ⟨pv_upd hI.pv h, hI.below, hI.keep, hI.size, hI.row0, hI.box, hI.sl, hI.row1, hI.cell⟩)
        clear hK hI hn hcl hi
        go_simp
        exact HK.out _ rfl
       ·have r12 : vs 12 = _ := hI.pv 12 (hn 12 rfl)
        have h10 : L 10 = true := hn 10 rfl
        have h9 : L 9 = true := hcl 10 _ rfl h10 9 rfl
        have h8 : L 8 = true := hcl 9 _ rfl h9 8 rfl
        obtain ⟨g, e8, hg1, hg2⟩ := hI.box h8
        have hx := hI.row1 h10
        have hc := hI.cell
        rw [hi] at hc
        simp only [Bool.false_eq_true, if_false] at hc
        have y2 := BlockIs.of hc 2 _ rfl
        have f2 := thaw hc 2
        obtain ⟨ra2, rc2, e10⟩ := own_shape hx
        have hgs := set_grown W b 2 (vs 10)
        have hty : ∀ q, some b = some q -> Typed W q 140 := fun q h => by injection h with h; rw [<- h]; exact ⟨_, hc⟩
        have HN := Lib.hid (show NewT w wt b (.slice ra k rcc) k xs (#[.int .i64 t.kind, .int .i64 t.period, .int .i64 t.deadline, .int .i64 t.clow, .int .i64 t.chigh, .int .i64 t.prio, .int .i64 (-1), .slice none 0 0, .int .i64 0]) idx lvl jv (NtV b ra k rcc t) (updB L 13) (upd vs 13 undef) (W.setCell ⟨b, 2, none⟩ (vs 10)) from ⟨pv_upd hI.pv trivial, hI.below.grown hgs hI.below.size (fun q hq => by injection hq with hq; rw [<- hq]; exact HBL.out), (fun k t h h1 h2 => (hgs.block k (Nat.lt_of_lt_of_le h.lt hI.size) (fun q => h2 (by injection q))).trans (hI.keep k t h h1 h2)), Nat.le_trans hI.size hgs.size, (fun q => absurd q (by rw [show updB L 13 10 = L 10 from rfl, h10]; decide)), (fun _ => ⟨g, e8, hg1, typed_apart hg2 hgs hty (by decide)⟩), (fun _ q => absurd q (by rw [show updB L 13 10 = L 10 from rfl, h10]; decide)), (fun _ => own_apart hx hgs hty (by decide)), by have h := blk_set hc 2 (vs 10); simp only [List.setIfInBounds_toArray, List.set_cons_succ, List.set_cons_zero] at h; exact h⟩)
        rw [e10] at HN
        simp only [r12, e10] at hK |-
        have HK := Lib.hid hK
        clear hK hI hn hcl hi h10 h9 h8 e8 hg1 hg2 hc hx hgs hty e10
        go_simp
        exact HK.out _ _ HN.out
      ·intro vs W hI
       simp only [List.map, putAll, Act.put, List.setIfInBounds_toArray, List.set_cons_succ, List.set_cons_zero, Nat.reduceAdd]
       have hbox := hI.box (by simp)
       have hrow := hI.row1 (by simp)
       have hcell := hI.cell
       simp only [List.length_cons, List.length_nil, Nat.zero_add, Nat.reduceAdd, Nat.reduceLT, decide_true, if_true] at hcell
       have r0 : vs 0 = _ := hI.pv 0 (by simp)
       have r1 : vs 1 = _ := hI.pv 1 (by simp)
       have r2 : vs 2 = _ := hI.pv 2 (by simp)
       have r3 : vs 3 = _ := hI.pv 3 (by simp)
       have r4 : vs 4 = _ := hI.pv 4 (by simp)
       have r5 : vs 5 = _ := hI.pv 5 (by simp)
       have r6 : vs 6 = _ := hI.pv 6 (by simp)
       have r7 : vs 7 = _ := hI.pv 7 (by simp)
       have r11 : vs 11 = _ := hI.pv 11 (by simp)
       have r12 : vs 12 = _ := hI.pv 12 (by simp)
       have HII := Lib.hid hI
       obtain ⟨g, e8, hg1, hg2⟩ := hbox
       rw [e8] at hrow
       have HRS := Lib.hid (And.intro hrow (And.intro hcell (And.intro hg1 hg2)))
       obtain ⟨ra2, rc2, e10⟩ := own_shape hrow
       simp only [r0, r1, r2, r3, r4, r5, r6, r7, r11, r12]
       clear hI hrow hcell hg2 r0 r1 r2 r3 r4 r5 r6 r7 r11 r12
       have HLN := Lib.hid (show LocAt W b w.heap.size (ps ++ [g]) _ (newL idx { p with tasks := p.tasks.take (k + 1) }) from by
        have h := HLT.out.addRun (r := ⟨t, ⟨-1, []⟩, 0⟩) HBT.out.size (by rfl) (by have h := HCB.out; rw [HLV.out.1] at h; exact h) HJ4.out.1 HJ4.out.2.2 HRS.out.2.2.1 HRS.out.2.2.2 rfl (by have h := HRS.out.2.1; rw [HLV.out.1] at h; exact h) (by rw [HDF.out.2.2, <- HXS.out]; exact HRS.out.1) HII.out.keep
        have e : p.tasks.take (k + 1) = p.tasks.take k ++ [t] := by rw [List.take_add_one, List.getElem?_eq_getElem HDF.out.2.1, show p.tasks[k]'HDF.out.2.1 = t from HDF.out.1.symm]; rfl
        have e2 : newL idx { p with tasks := p.tasks.take (k + 1) } = { newL idx { p with tasks := p.tasks.take k } with rs := (newL idx { p with tasks := p.tasks.take k }).rs ++ [⟨t, ⟨-1, []⟩, 0⟩] } := by unfold newL; rw [e]; simp
        rw [e2]
        exact h)
       have HBN := Lib.hid HII.out.below
       have hpl := HDF.out.2.2
       clear HII HRS hg1
       go_wp2_with fail
       go_roundw
       case rel => exact ⟨k + 1, _, _, by omega, by go_num, by simp [hpl], HLN, HBN, Lib.hid (.inr trivial)⟩
       case measure => simp [intOf]; omega
     ·obtain rfl : k = n := by omega
      go_wp2_with fail
      go_ret2
      refine ⟨fun h => absurd (HN.out.symm.trans h) (by decide), fun _ => ⟨b, ps, F, rfl, ?_⟩, HB.out⟩
      have h := HL.out
      rw [HLV.out.2, List.take_length] at h
      exact h
end Go.Proofs.YtooeeiiiflfckaaGreat
/- package jobs, told by what the schedule holds: one predicate on the world. -/
namespace Go.Proofs.YtooeeiiiflfckaaGreat
open Go.RowKit
def LocIs (W : World) (b lo : Nat) (S : LSt) (m : Int) : Prop := ∃ ps F, LocAt W b lo ps F S /\ LWf S m
structure Leaves (lo : Nat) (w w' : World) : Prop where
 below : Below lo w w'
 rows : ∀ B v n xs, w.ownsRow B 45 4 v n xs -> w'.ownsRow B 45 4 v n xs
theorem Leaves.refl (lo : Nat) (w : World) : Leaves lo w w := ⟨Below.refl _ _, fun _ _ _ _ h => h⟩
theorem Leaves.trans {lo : Nat} {a b c : World} (h : Leaves lo a b) (k : Leaves lo b c) : Leaves lo a c := ⟨h.below.trans k.below, fun B v n xs q => k.rows B v n xs (h.rows B v n xs q)⟩
theorem Leaves.of_below {lo : Nat} {a b : World} (hl : lo <= a.heap.size) (h : Below a.heap.size a b) : Leaves lo a b := ⟨h.mono hl, fun B v n xs q => Below.kept q h⟩
theorem Leaves.of {w w' : World} {b lo : Nat} {ps : List Nat} {F : Nat -> Prop} {S : LSt} (h : LocAt w b lo ps F S) (hk : Keeps F w w') : Leaves lo w w' :=
 ⟨hk.below (by have := h.fl b h.fb; have := h.lt h.fb; omega) h.fl, fun B v n xs q => Keeps.own q hk (h.evApart q)⟩
theorem LocIs.keep {W W' : World} {b lo : Nat} {S : LSt} {m : Int} (h : LocIs W b lo S m) (hb : Below W.heap.size W W') : LocIs W' b lo S m := by
 obtain ⟨ps, F, h1, h2⟩ := h
 exact ⟨ps, F, h1.keep hb, h2⟩
theorem LocIs.lo {W : World} {b lo : Nat} {S : LSt} {m : Int} (h : LocIs W b lo S m) : lo <= W.heap.size := by
 obtain ⟨ps, F, h1, -⟩ := h
 have := h1.fl b h1.fb
 have := h1.lt h1.fb
 omega
theorem LocIs.wf {W : World} {b lo : Nat} {S : LSt} {m : Int} (h : LocIs W b lo S m) : LWf S m := by
 obtain ⟨ps, F, -, h2⟩ := h
 exact h2
end Go.Proofs.YtooeeiiiflfckaaGreat
