/- Several texts of this claim as one. -/
import Derived.Test.YtooeeiiiflfckaaGreatLibA
import Derived.Test.YtooeeiiiflfckaaGreatProg
/- What the document says of configurations, as plain functions. -/
set_option linter.unusedVariables false
set_option linter.unusedSimpArgs false
namespace Go.Proofs.YtooeeiiiflfckaaGreat
def taskMay (t : Task) : Bool := decide ((t.kind = 0 ∨ t.kind = 1) /\ 1 <= t.period /\ t.period <= 1024 /\ 1 <= t.deadline /\ t.deadline <= t.period /\ 1 <= t.clow /\ t.clow <= t.chigh /\ t.chigh <= t.deadline /\ 0 <= t.prio /\ t.prio <= 255)
def below (op many : Int) : Int :=
 if op = 0 ∨ op = 8 ∨ op = 11 then 1 else if op = 1 then 256 else if op = 2 ∨ op = 3 ∨ op = 4 ∨ op = 5 then 16 else if op = 6 ∨ op = 7 then many else if op = 9 ∨ op = 10 then 8 else 0
def instrMay (many : Int) (x : Instr) : Bool := decide (0 <= x.arg /\ x.arg < below x.op many)
def codeMay (p : List Instr) : Bool := decide (p.length <= 64) && p.all (instrMay p.length)
def winsFrom (frame parts : Int) : Int -> List Window -> Bool
 | _, [] => true
 | e, x :: r => decide (e <= x.from_ /\ x.from_ < x.to_ /\ x.to_ <= frame /\ 0 <= x.part /\ x.part < parts) && winsFrom frame parts x.to_ r
def windowsMay (c : Config) : Bool := winsFrom c.frame c.parts.length 0 c.windows && decide (c.windows.length <= 32)
def isPart (ps : List Part) (p l : Int) : Bool := decide (0 <= p /\ p < ps.length) && decide ((ps[p.toNat]?.map (·.level)) = some l)
def portMay (ps : List Part) (x : Port) : Bool :=
 decide ((x.kind = 0 ∨ x.kind = 1) /\ 1 <= x.size /\ x.size <= (if x.kind = 0 then 1 else 8)) && isPart ps x.from_ 1 && isPart ps x.to_ 0
def tasksFrom (level : Int) (ts : List Task) : Nat -> List Task -> Bool
 | _, [] => true
 | k, t :: r => (taskMay t && !(decide (level = 0) && decide (t.chigh ≠ t.clow)) && !((ts.take k).any fun x => decide (x.prio = t.prio))) && tasksFrom level ts (k + 1) r
def tasksMay (p : Part) : Bool := decide (p.tasks.length <= 6) && tasksFrom p.level p.tasks 0 p.tasks
def levelMay (p : Part) : Bool := decide (p.level = 0 ∨ p.level = 1)
def checkCfg (c : Config) : Int :=
 if c.frame < 1 ∨ c.frame > 256 ∨ c.quiet < 1 ∨ c.quiet > 16 then 501
 else if c.parts.length < 1 ∨ c.parts.length > 8 ∨ c.parts.any (fun p => !levelMay p) = true then 502
 else if c.parts.any (fun p => !tasksMay p) = true then 503
 else if windowsMay c = false then 504
 else if c.ports.length > 8 ∨ c.ports.any (fun p => !portMay c.parts p) = true then 505
 else if c.parts.any (fun p => !codeMay p.code) = true then 506
 else 0
def ownerAt (t : Int) : List Window -> Int
 | [] => -1
 | x :: r => if x.from_ <= t /\ t < x.to_ then x.part else ownerAt t r
def shareOf (part : Int) : List Window -> Int
 | [] => 0
 | x :: r => (if x.part = part then x.to_ - x.from_ else 0) + shareOf part r
def shareSpec (c : Config) (part : Int) : Int × Int := if checkCfg c ≠ 0 ∨ part < 0 ∨ part >= c.parts.length then (0, 600) else (shareOf part c.windows, 0)
def cnt (c : Config) (part : Int) : Nat -> Int
 | 0 => 0
 | n + 1 => cnt c part n + if ownerAt ((n : Int) % c.frame) c.windows = part then 1 else 0
def leastTo (c : Config) (part : Int) (rest : Nat) (m : Int) : Nat -> Int
 | 0 => m
 | n + 1 => min (leastTo c part rest m n) (cnt c part (n + rest) - cnt c part n)
def leastSpec (c : Config) (part len : Int) : Int × Int :=
 if checkCfg c ≠ 0 ∨ part < 0 ∨ part >= c.parts.length ∨ len < 0 ∨ len > 4096 then (0, 700)
 else (len / c.frame * cnt c part c.frame.toNat + leastTo c part (len % c.frame).toNat (cnt c part (len % c.frame).toNat) c.frame.toNat, 0)
def levelOf (ps : List Part) (p : Int) : Int := if p < 0 ∨ p >= ps.length then -1 else (ps.getD p.toNat ⟨0, [], []⟩).level
end Go.Proofs.YtooeeiiiflfckaaGreat
/- task.Clock, task.DemandMay. -/
namespace Go.Proofs.YtooeeiiiflfckaaGreat
open Go.RowKit
set_option maxRecDepth 100000 in
set_option maxHeartbeats 400000 in
theorem clock_any (x : Int) (w : World) : Calls Tryz.prog 35 #[.int .i64 x] w fun e w' => e = .returned (.bool (decide (0 <= x /\ x <= 1099511627776))) /\ w' = w := by
 go_enter Tryz.func35, Tryz.ntmps35
 go_wp2
 all_goals
  go_ret
  exact ⟨ret_bool (by (rw [Bool.eq_iff_iff]; (try simp only [beq_iff_eq, beq_eq_false_iff_ne, ne_eq] at *); (try simp); (try omega))), rfl⟩
set_option maxRecDepth 100000 in
set_option maxHeartbeats 400000 in
theorem demandMay_any (x : Int) (w : World) : Calls Tryz.prog 101 #[.int .i64 x] w fun e w' => e = .returned (.bool (decide (1 <= x /\ x <= 65535))) /\ w' = w := by
 go_enter Tryz.func101, Tryz.ntmps101
 go_wp2
 all_goals
  go_ret
  exact ⟨ret_bool (by (rw [Bool.eq_iff_iff]; (try simp only [beq_iff_eq, beq_eq_false_iff_ne, ne_eq] at *); (try simp); (try omega))), rfl⟩
end Go.Proofs.YtooeeiiiflfckaaGreat
/- What the functions under config.Check answer. -/
namespace Go.Proofs.YtooeeiiiflfckaaGreat
open Go.RowKit
set_option maxRecDepth 100000 in
set_option maxHeartbeats 400000 in
theorem taskMay_any (t : Task) (w : World) : Calls Tryz.prog 122 #[taskV t] w fun e w' => e = .returned (.bool (taskMay t)) /\ Below w.heap.size w w' := by
 go_enter Tryz.func122, Tryz.ntmps122
 go_wp2
 all_goals
  go_ret
  exact ⟨ret_bool (by unfold taskMay; first | (rw [decide_eq_decide]; omega) | (rw [eq_comm, decide_eq_false_iff_not]; omega)), balloc _ _⟩
set_option maxRecDepth 100000 in
set_option maxHeartbeats 400000 in
theorem level_any (x : Int) (w : World) : Calls Tryz.prog 88 #[.int .i64 x] w fun e w' => e = .returned (.bool (decide (x = 0 ∨ x = 1))) /\ w' = w := by
 go_enter Tryz.func88, Tryz.ntmps88
 go_wp2
 all_goals
  go_ret
  exact ⟨ret_bool (by (rw [Bool.eq_iff_iff]; (try simp only [beq_iff_eq, beq_eq_false_iff_ne, ne_eq] at *); (try simp); (try omega))), rfl⟩
set_option maxRecDepth 100000 in
set_option maxHeartbeats 400000 in
theorem below_any (op many : Int) (w : World) : Calls Tryz.prog 124 #[.int .i64 op, .int .i64 many] w fun e w' => e = .returned (.int .i64 (below op many)) /\ w' = w := by
 go_enter Tryz.func124, Tryz.ntmps124
 go_wp2
 all_goals
  go_ret
  exact ⟨ret_int (by unfold below; simp only [beq_iff_eq, beq_eq_false_iff_ne, ne_eq] at *; (repeat' split) <;> omega), rfl⟩
end Go.Proofs.YtooeeiiiflfckaaGreat
/- What the functions under config.Check answer: windows. -/
namespace Go.Proofs.YtooeeiiiflfckaaGreat
open Go.RowKit
theorem winsFrom_step (f n e : Int) (ws : List Window) (k : Nat) (h : k < ws.length) :
  winsFrom f n e (ws.drop k) = (decide (e <= ws[k].from_ /\ ws[k].from_ < ws[k].to_ /\ ws[k].to_ <= f /\ 0 <= ws[k].part /\ ws[k].part < n) && winsFrom f n ws[k].to_ (ws.drop (k + 1))) := by
 rw [List.drop_eq_getElem_cons h]
 rfl
set_option maxRecDepth 100000 in
set_option maxHeartbeats 400000 in
theorem windows_any (g : Nat) (c : Config) (w : World) (hc : CfgP w g c) : Calls Tryz.prog 96 #[.pointer (some ⟨g, 0, none⟩)] w fun e w' => e = .returned (.bool (windowsMay c)) /\ Below w.heap.size w w' := by
 obtain ⟨pv, wv, ov, h0, h1, h2, h3, h4, h5⟩ := hc
 obtain ⟨pa, pcap, rfl, hp1, hp2, hp3, hp4⟩ := h5.parts
 obtain ⟨wa, wcap, rfl, hw1, hw2, hw3, hw4⟩ := h5.windows
 have HW := Lib.hid hw4
 have hg : g < w.heap.size := cell_lt h2
 have H0 := Lib.hid h0
 have H2 := Lib.hid h2
 have H3 := Lib.hid h3
 clear hw4 hp4 h5 h0 h1 h4 h2
 have hl1 : c.windows.length <= 1000000000000000 := by omega
 go_enter Tryz.func96, Tryz.ntmps96
 go_wp2_with fail
 clear h3
 go_loopw [3, 5, 11] (fun e _ i wr => ∃ (k : Nat) (ev : Int), k <= c.windows.length /\ i = .int .i64 k /\ e = .int .i64 ev /\ Hid (winsFrom c.frame c.parts.length 0 c.windows = winsFrom c.frame c.parts.length ev (c.windows.drop k)) /\ Below w.heap.size w wr) (fun _ _ i _ => c.windows.length - (intOf i).toNat)
 case atStart => exact ⟨0, 0, by omega, rfl, rfl, Lib.hid (by simp), Below.refl _ _⟩
 case round =>
  obtain ⟨k, ev, hk, rfl, rfl, HD, hB⟩ := hrel
  have HB := Lib.hid hB
  clear hB
  by_cases hlt : k < c.windows.length
  ·obtain ⟨b, off, rfl, hcell⟩ := HW.out (by intro h; rw [h] at hlt; simp at hlt)
   obtain ⟨x0, x1, x2⟩ := hcell k hlt
   have E := Ext.below HB.out
   have y0 := E _ _ x0
   have y1 := E _ _ x1
   have y2 := E _ _ x2
   have z0 := E _ _ H0.out
   have z2 := E _ _ H2.out
   have z3 := E _ _ H3.out
   have hgr : g < wr.heap.size := cell_lt z2
   have hbr : b < wr.heap.size := cell_lt y0
   clear x0 x1 x2 hcell E
   have hstep := winsFrom_step c.frame c.parts.length ev c.windows k hlt
   rw [<- HD.out] at hstep
   have HS := Lib.hid hstep
   clear hstep HD
   go_wp2_with fail
   refine wp_region_quiet_lit (by kernel_rfl) (by kernel_rfl) ?_
   repeat (any_goals (first | go_big_quiet_step (fail) | quiet_step (fail) | (refine wpQuiet_step (fun K hK => ?_); go_simp; split <;> (refine hK _ ?_; clear hK K))))
   all_goals (refine wpQuiet_nil ?_; intro _ hw'; obtain ⟨nq, hw''⟩ := hw'; subst hw'')
   all_goals go_wp2_with fail
   all_goals first
    | (go_ret
       exact ⟨ret_bool (by unfold windowsMay; rw [HS.out]; simp; omega), bthen HB.out (below_drewN (balloc _ _) _)⟩)
    | (go_roundw
       case rel => exact ⟨k + 1, _, by omega, by go_num, rfl, Lib.hid (by rw [HS.out, decide_eq_true (by omega)]; simp), bthen HB.out (below_drewN (balloc _ _) _)⟩
       case measure => simp [intOf]; omega)
  ·have z3 := Ext.below HB.out _ _ H3.out
   have hfin : winsFrom c.frame c.parts.length 0 c.windows = true := by
    rw [HD.out, List.drop_of_length_le (by omega)]; rfl
   have HF := Lib.hid hfin
   clear hfin HD
   go_wp2_with fail
   go_ret
   exact ⟨ret_bool (by unfold windowsMay; rw [HF.out, Bool.true_and]; (rw [Bool.eq_iff_iff]; (try simp only [beq_iff_eq, beq_eq_false_iff_ne, ne_eq] at *); (try simp); (try omega))), HB.out⟩
end Go.Proofs.YtooeeiiiflfckaaGreat
/- What the functions under config.Check answer: closures over tasks. -/
namespace Go.Proofs.YtooeeiiiflfckaaGreat
open Go.RowKit
def findI {α : Type} (p : α -> Bool) (xs : List α) : Int := if xs.any p then (xs.findIdx p : Int) else -1
theorem findI_at {α : Type} (p : α -> Bool) (xs : List α) (k : Nat) (h : k < xs.length) (hp : p xs[k] = true) (hn : ∀ j (hj : j < xs.length), j < k -> p xs[j] = false) : findI p xs = k := by
 unfold findI
 rw [if_pos (List.any_eq_true.2 ⟨xs[k], List.getElem_mem h, hp⟩)]
 have : xs.findIdx p = k := by
  rw [List.findIdx_eq h]
  exact ⟨hp, fun j hj => hn j (by omega) hj⟩
 rw [this]
theorem findI_none {α : Type} (p : α -> Bool) (xs : List α) (hn : ∀ j (hj : j < xs.length), p xs[j] = false) : findI p xs = -1 := by
 unfold findI
 rw [if_neg]
 intro h
 obtain ⟨x, hx, hp⟩ := List.any_eq_true.1 h
 obtain ⟨j, hj, rfl⟩ := List.getElem_of_mem hx
 rw [hn j hj] at hp
 exact Bool.noConfusion hp
theorem findI_any {α : Type} (p : α -> Bool) (xs : List α) : decide (0 <= findI p xs) = xs.any p := by
 unfold findI
 split
 ·rename_i h; rw [h]; simp
 ·rename_i h; simp only [Bool.not_eq_true] at h; rw [h]; rfl
set_option maxRecDepth 100000 in
set_option maxHeartbeats 400000 in
theorem indexTask_any (cap : Value) (v : Value) (xs : List Task) (p : Task -> Bool) (w : World) (hv : TasksV w v xs)
  (hf : ∀ i (h : i < xs.length)  (W : World), Below w.heap.size w W ->  Calls Tryz.prog 121 #[taskV xs[i], cap] W fun e w' => e = .returned (.bool (p xs[i])) /\ Below W.heap.size W w') :
  Calls Tryz.prog 144 #[v, .func (.func 121) #[] #[cap]] w fun e w' => e = .returned (.int .i64 (findI p xs)) /\ Below w.heap.size w w' := by
 obtain ⟨a, c, rfl, hv1, hv2, hv3, hv4⟩ := hv
 have HF := Lib.hid hf
 have HV := Lib.hid hv4
 clear hf hv4
 have hl1 : xs.length <= 1000000000000000 := by omega
 go_enter Tryz.func144, Tryz.ntmps144
 go_wp2_with fail
 go_loopw [5, 8] (fun _ i wr => ∃ (k : Nat), k <= xs.length /\ i = .int .i64 k /\ Hid (∀ j (hj : j < xs.length), j < k -> p xs[j] = false) /\ Below w.heap.size w wr) (fun _ i _ => xs.length - (intOf i).toNat)
 case atStart => exact ⟨0, by omega, rfl, Lib.hid (fun j hj h => by omega), Below.refl _ _⟩
 case round =>
  obtain ⟨k, hk, rfl, HD, hB⟩ := hrel
  have HB := Lib.hid hB
  clear hB
  by_cases hlt : k < xs.length
  ·obtain ⟨b, off, rfl, hcell⟩ := HV.out (by intro h; rw [h] at hlt; simp at hlt)
   obtain ⟨y0, y1, y2, y3, y4, y5⟩ := TaskAt.ext (Ext.below HB.out) (hcell k hlt)
   unfold IntAt at y0 y1 y2 y3 y4 y5
   clear hcell
   by_cases hp : p xs[k] = true
   ·have HP := Lib.hid hp
    clear hp
    go_wp2_with fail
    refine (HF.out k hlt _ HB.out).mono ?_
    rw [HP.out]
    rintro e w1 ⟨rfl, hb⟩
    go_wp2_with fail
    go_ret
    exact ⟨ret_int (findI_at p xs k hlt HP.out HD.out).symm, bthen HB.out hb⟩
   ·have hp : p xs[k] = false := by simpa using hp
    have HP := Lib.hid hp
    clear hp
    go_wp2_with fail
    refine (HF.out k hlt _ HB.out).mono ?_
    rw [HP.out]
    rintro e w1 ⟨rfl, hb⟩
    go_wp2_with fail
    go_roundw
    case rel => exact ⟨k + 1, by omega, by go_num, Lib.hid (fun j hj h => by rcases Nat.lt_succ_iff_lt_or_eq.1 h with h | rfl; exact HD.out j hj h; exact HP.out), bthen HB.out hb⟩
    case measure => simp [intOf]; omega
  ·go_wp2_with fail
   go_ret
   exact ⟨ret_int (findI_none p xs (fun j hj => HD.out j hj (by omega))).symm, HB.out⟩
set_option maxRecDepth 100000 in
set_option maxHeartbeats 400000 in
theorem containsTask_any (cap : Value) (v : Value) (xs : List Task) (p : Task -> Bool) (w : World) (hv : TasksV w v xs)
  (hf : ∀ i (h : i < xs.length)  (W : World), Below w.heap.size w W ->  Calls Tryz.prog 121 #[taskV xs[i], cap] W fun e w' => e = .returned (.bool (p xs[i])) /\ Below W.heap.size W w') :
  Calls Tryz.prog 123 #[v, .func (.func 121) #[] #[cap]] w fun e w' => e = .returned (.bool (xs.any p)) /\ Below w.heap.size w w' := by
 have HI := Lib.hid (indexTask_any cap v xs p w hv hf)
 clear hf
 go_enter Tryz.func123, Tryz.ntmps123
 go_wp2_with fail
 refine HI.out.mono ?_
 rintro e w1 ⟨rfl, hb⟩
 go_wp2_with fail
 go_ret
 exact ⟨ret_bool (findI_any p xs), hb⟩
set_option maxRecDepth 100000 in
set_option maxHeartbeats 400000 in
theorem indexPort_any (cap : Value) (v : Value) (xs : List Port) (p : Port -> Bool) (w : World) (hv : PortsV w v xs)
  (hf : ∀ i (h : i < xs.length)  (W : World), Below w.heap.size w W ->  Calls Tryz.prog 93 #[portV xs[i], cap] W fun e w' => e = .returned (.bool (p xs[i])) /\ Below W.heap.size W w') :
  Calls Tryz.prog 127 #[v, .func (.func 93) #[] #[cap]] w fun e w' => e = .returned (.int .i64 (findI p xs)) /\ Below w.heap.size w w' := by
 obtain ⟨a, c, rfl, hv1, hv2, hv3, hv4⟩ := hv
 have HF := Lib.hid hf
 have HV := Lib.hid hv4
 clear hf hv4
 have hl1 : xs.length <= 1000000000000000 := by omega
 go_enter Tryz.func127, Tryz.ntmps127
 go_wp2_with fail
 go_loopw [5, 8] (fun _ i wr => ∃ (k : Nat), k <= xs.length /\ i = .int .i64 k /\ Hid (∀ j (hj : j < xs.length), j < k -> p xs[j] = false) /\ Below w.heap.size w wr) (fun _ i _ => xs.length - (intOf i).toNat)
 case atStart => exact ⟨0, by omega, rfl, Lib.hid (fun j hj h => by omega), Below.refl _ _⟩
 case round =>
  obtain ⟨k, hk, rfl, HD, hB⟩ := hrel
  have HB := Lib.hid hB
  clear hB
  by_cases hlt : k < xs.length
  ·obtain ⟨b, off, rfl, hcell⟩ := HV.out (by intro h; rw [h] at hlt; simp at hlt)
   obtain ⟨y0, y1, y2, y3⟩ := PortAt.ext (Ext.below HB.out) (hcell k hlt)
   unfold IntAt at y0 y1 y2 y3
   clear hcell
   by_cases hp : p xs[k] = true
   ·have HP := Lib.hid hp
    clear hp
    go_wp2_with fail
    refine (HF.out k hlt _ HB.out).mono ?_
    rw [HP.out]
    rintro e w1 ⟨rfl, hb⟩
    go_wp2_with fail
    go_ret
    exact ⟨ret_int (findI_at p xs k hlt HP.out HD.out).symm, bthen HB.out hb⟩
   ·have hp : p xs[k] = false := by simpa using hp
    have HP := Lib.hid hp
    clear hp
    go_wp2_with fail
    refine (HF.out k hlt _ HB.out).mono ?_
    rw [HP.out]
    rintro e w1 ⟨rfl, hb⟩
    go_wp2_with fail
    go_roundw
    case rel => exact ⟨k + 1, by omega, by go_num, Lib.hid (fun j hj h => by rcases Nat.lt_succ_iff_lt_or_eq.1 h with h | rfl; exact HD.out j hj h; exact HP.out), bthen HB.out hb⟩
    case measure => simp [intOf]; omega
  ·go_wp2_with fail
   go_ret
   exact ⟨ret_int (findI_none p xs (fun j hj => HD.out j hj (by omega))).symm, HB.out⟩
set_option maxRecDepth 100000 in
set_option maxHeartbeats 400000 in
theorem containsPort_any (cap : Value) (v : Value) (xs : List Port) (p : Port -> Bool) (w : World) (hv : PortsV w v xs)
  (hf : ∀ i (h : i < xs.length)  (W : World), Below w.heap.size w W ->  Calls Tryz.prog 93 #[portV xs[i], cap] W fun e w' => e = .returned (.bool (p xs[i])) /\ Below W.heap.size W w') :
  Calls Tryz.prog 97 #[v, .func (.func 93) #[] #[cap]] w fun e w' => e = .returned (.bool (xs.any p)) /\ Below w.heap.size w w' := by
 have HI := Lib.hid (indexPort_any cap v xs p w hv hf)
 clear hf
 go_enter Tryz.func97, Tryz.ntmps97
 go_wp2_with fail
 refine HI.out.mono ?_
 rintro e w1 ⟨rfl, hb⟩
 go_wp2_with fail
 go_ret
 exact ⟨ret_bool (findI_any p xs), hb⟩
set_option maxRecDepth 100000 in
set_option maxHeartbeats 400000 in
theorem indexPartA_any  (v : Value) (xs : List Part) (p : Part -> Bool) (w : World) (hv : PartsV w v xs)
  (hf : ∀ i (h : i < xs.length) (tv cv : Value) (W : World), Below w.heap.size w W -> PartIs W tv cv xs[i] -> Calls Tryz.prog 87 #[.agg #[.int .i64 xs[i].level, tv, cv]] W fun e w' => e = .returned (.bool (p xs[i])) /\ Below W.heap.size W w') :
  Calls Tryz.prog 126 #[v, .func (.func 87) #[] #[]] w fun e w' => e = .returned (.int .i64 (findI p xs)) /\ Below w.heap.size w w' := by
 obtain ⟨a, c, rfl, hv1, hv2, hv3, hv4⟩ := hv
 have HF := Lib.hid hf
 have HV := Lib.hid hv4
 clear hf hv4
 have hl1 : xs.length <= 1000000000000000 := by omega
 go_enter Tryz.func126, Tryz.ntmps126
 go_wp2_with fail
 go_loopw [5, 8] (fun _ i wr => ∃ (k : Nat), k <= xs.length /\ i = .int .i64 k /\ Hid (∀ j (hj : j < xs.length), j < k -> p xs[j] = false) /\ Below w.heap.size w wr) (fun _ i _ => xs.length - (intOf i).toNat)
 case atStart => exact ⟨0, by omega, rfl, Lib.hid (fun j hj h => by omega), Below.refl _ _⟩
 case round =>
  obtain ⟨k, hk, rfl, HD, hB⟩ := hrel
  have HB := Lib.hid hB
  clear hB
  by_cases hlt : k < xs.length
  ·obtain ⟨b, off, rfl, hcell⟩ := HV.out (by intro h; rw [h] at hlt; simp at hlt)
   obtain ⟨y0, tv, cv, y1, y2, hpi⟩ := PartAt.ext (Ext.below HB.out) (hcell k hlt)
   unfold IntAt at y0
   clear hcell
   by_cases hp : p xs[k] = true
   ·have HP := Lib.hid hp
    clear hp
    go_wp2_with fail
    refine (HF.out k hlt tv cv _ HB.out hpi).mono ?_
    rw [HP.out]
    rintro e w1 ⟨rfl, hb⟩
    go_wp2_with fail
    go_ret
    exact ⟨ret_int (findI_at p xs k hlt HP.out HD.out).symm, bthen HB.out hb⟩
   ·have hp : p xs[k] = false := by simpa using hp
    have HP := Lib.hid hp
    clear hp
    go_wp2_with fail
    refine (HF.out k hlt tv cv _ HB.out hpi).mono ?_
    rw [HP.out]
    rintro e w1 ⟨rfl, hb⟩
    go_wp2_with fail
    go_roundw
    case rel => exact ⟨k + 1, by omega, by go_num, Lib.hid (fun j hj h => by rcases Nat.lt_succ_iff_lt_or_eq.1 h with h | rfl; exact HD.out j hj h; exact HP.out), bthen HB.out hb⟩
    case measure => simp [intOf]; omega
  ·go_wp2_with fail
   go_ret
   exact ⟨ret_int (findI_none p xs (fun j hj => HD.out j hj (by omega))).symm, HB.out⟩
set_option maxRecDepth 100000 in
set_option maxHeartbeats 400000 in
theorem containsPartA_any  (v : Value) (xs : List Part) (p : Part -> Bool) (w : World) (hv : PartsV w v xs)
  (hf : ∀ i (h : i < xs.length) (tv cv : Value) (W : World), Below w.heap.size w W -> PartIs W tv cv xs[i] -> Calls Tryz.prog 87 #[.agg #[.int .i64 xs[i].level, tv, cv]] W fun e w' => e = .returned (.bool (p xs[i])) /\ Below W.heap.size W w') :
  Calls Tryz.prog 95 #[v, .func (.func 87) #[] #[]] w fun e w' => e = .returned (.bool (xs.any p)) /\ Below w.heap.size w w' := by
 have HI := Lib.hid (indexPartA_any  v xs p w hv hf)
 clear hf
 go_enter Tryz.func95, Tryz.ntmps95
 go_wp2_with fail
 refine HI.out.mono ?_
 rintro e w1 ⟨rfl, hb⟩
 go_wp2_with fail
 go_ret
 exact ⟨ret_bool (findI_any p xs), hb⟩
set_option maxRecDepth 100000 in
set_option maxHeartbeats 400000 in
theorem indexPartB_any  (v : Value) (xs : List Part) (p : Part -> Bool) (w : World) (hv : PartsV w v xs)
  (hf : ∀ i (h : i < xs.length) (tv cv : Value) (W : World), Below w.heap.size w W -> PartIs W tv cv xs[i] -> Calls Tryz.prog 89 #[.agg #[.int .i64 xs[i].level, tv, cv]] W fun e w' => e = .returned (.bool (p xs[i])) /\ Below W.heap.size W w') :
  Calls Tryz.prog 126 #[v, .func (.func 89) #[] #[]] w fun e w' => e = .returned (.int .i64 (findI p xs)) /\ Below w.heap.size w w' := by
 obtain ⟨a, c, rfl, hv1, hv2, hv3, hv4⟩ := hv
 have HF := Lib.hid hf
 have HV := Lib.hid hv4
 clear hf hv4
 have hl1 : xs.length <= 1000000000000000 := by omega
 go_enter Tryz.func126, Tryz.ntmps126
 go_wp2_with fail
 go_loopw [5, 8] (fun _ i wr => ∃ (k : Nat), k <= xs.length /\ i = .int .i64 k /\ Hid (∀ j (hj : j < xs.length), j < k -> p xs[j] = false) /\ Below w.heap.size w wr) (fun _ i _ => xs.length - (intOf i).toNat)
 case atStart => exact ⟨0, by omega, rfl, Lib.hid (fun j hj h => by omega), Below.refl _ _⟩
 case round =>
  obtain ⟨k, hk, rfl, HD, hB⟩ := hrel
  have HB := Lib.hid hB
  clear hB
  by_cases hlt : k < xs.length
  ·obtain ⟨b, off, rfl, hcell⟩ := HV.out (by intro h; rw [h] at hlt; simp at hlt)
   obtain ⟨y0, tv, cv, y1, y2, hpi⟩ := PartAt.ext (Ext.below HB.out) (hcell k hlt)
   unfold IntAt at y0
   clear hcell
   by_cases hp : p xs[k] = true
   ·have HP := Lib.hid hp
    clear hp
    go_wp2_with fail
    refine (HF.out k hlt tv cv _ HB.out hpi).mono ?_
    rw [HP.out]
    rintro e w1 ⟨rfl, hb⟩
    go_wp2_with fail
    go_ret
    exact ⟨ret_int (findI_at p xs k hlt HP.out HD.out).symm, bthen HB.out hb⟩
   ·have hp : p xs[k] = false := by simpa using hp
    have HP := Lib.hid hp
    clear hp
    go_wp2_with fail
    refine (HF.out k hlt tv cv _ HB.out hpi).mono ?_
    rw [HP.out]
    rintro e w1 ⟨rfl, hb⟩
    go_wp2_with fail
    go_roundw
    case rel => exact ⟨k + 1, by omega, by go_num, Lib.hid (fun j hj h => by rcases Nat.lt_succ_iff_lt_or_eq.1 h with h | rfl; exact HD.out j hj h; exact HP.out), bthen HB.out hb⟩
    case measure => simp [intOf]; omega
  ·go_wp2_with fail
   go_ret
   exact ⟨ret_int (findI_none p xs (fun j hj => HD.out j hj (by omega))).symm, HB.out⟩
set_option maxRecDepth 100000 in
set_option maxHeartbeats 400000 in
theorem containsPartB_any  (v : Value) (xs : List Part) (p : Part -> Bool) (w : World) (hv : PartsV w v xs)
  (hf : ∀ i (h : i < xs.length) (tv cv : Value) (W : World), Below w.heap.size w W -> PartIs W tv cv xs[i] -> Calls Tryz.prog 89 #[.agg #[.int .i64 xs[i].level, tv, cv]] W fun e w' => e = .returned (.bool (p xs[i])) /\ Below W.heap.size W w') :
  Calls Tryz.prog 95 #[v, .func (.func 89) #[] #[]] w fun e w' => e = .returned (.bool (xs.any p)) /\ Below w.heap.size w w' := by
 have HI := Lib.hid (indexPartB_any  v xs p w hv hf)
 clear hf
 go_enter Tryz.func95, Tryz.ntmps95
 go_wp2_with fail
 refine HI.out.mono ?_
 rintro e w1 ⟨rfl, hb⟩
 go_wp2_with fail
 go_ret
 exact ⟨ret_bool (findI_any p xs), hb⟩
set_option maxRecDepth 100000 in
set_option maxHeartbeats 400000 in
theorem indexPartC_any  (v : Value) (xs : List Part) (p : Part -> Bool) (w : World) (hv : PartsV w v xs)
  (hf : ∀ i (h : i < xs.length) (tv cv : Value) (W : World), Below w.heap.size w W -> PartIs W tv cv xs[i] -> Calls Tryz.prog 91 #[.agg #[.int .i64 xs[i].level, tv, cv]] W fun e w' => e = .returned (.bool (p xs[i])) /\ Below W.heap.size W w') :
  Calls Tryz.prog 126 #[v, .func (.func 91) #[] #[]] w fun e w' => e = .returned (.int .i64 (findI p xs)) /\ Below w.heap.size w w' := by
 obtain ⟨a, c, rfl, hv1, hv2, hv3, hv4⟩ := hv
 have HF := Lib.hid hf
 have HV := Lib.hid hv4
 clear hf hv4
 have hl1 : xs.length <= 1000000000000000 := by omega
 go_enter Tryz.func126, Tryz.ntmps126
 go_wp2_with fail
 go_loopw [5, 8] (fun _ i wr => ∃ (k : Nat), k <= xs.length /\ i = .int .i64 k /\ Hid (∀ j (hj : j < xs.length), j < k -> p xs[j] = false) /\ Below w.heap.size w wr) (fun _ i _ => xs.length - (intOf i).toNat)
 case atStart => exact ⟨0, by omega, rfl, Lib.hid (fun j hj h => by omega), Below.refl _ _⟩
 case round =>
  obtain ⟨k, hk, rfl, HD, hB⟩ := hrel
  have HB := Lib.hid hB
  clear hB
  by_cases hlt : k < xs.length
  ·obtain ⟨b, off, rfl, hcell⟩ := HV.out (by intro h; rw [h] at hlt; simp at hlt)
   obtain ⟨y0, tv, cv, y1, y2, hpi⟩ := PartAt.ext (Ext.below HB.out) (hcell k hlt)
   unfold IntAt at y0
   clear hcell
   by_cases hp : p xs[k] = true
   ·have HP := Lib.hid hp
    clear hp
    go_wp2_with fail
    refine (HF.out k hlt tv cv _ HB.out hpi).mono ?_
    rw [HP.out]
    rintro e w1 ⟨rfl, hb⟩
    go_wp2_with fail
    go_ret
    exact ⟨ret_int (findI_at p xs k hlt HP.out HD.out).symm, bthen HB.out hb⟩
   ·have hp : p xs[k] = false := by simpa using hp
    have HP := Lib.hid hp
    clear hp
    go_wp2_with fail
    refine (HF.out k hlt tv cv _ HB.out hpi).mono ?_
    rw [HP.out]
    rintro e w1 ⟨rfl, hb⟩
    go_wp2_with fail
    go_roundw
    case rel => exact ⟨k + 1, by omega, by go_num, Lib.hid (fun j hj h => by rcases Nat.lt_succ_iff_lt_or_eq.1 h with h | rfl; exact HD.out j hj h; exact HP.out), bthen HB.out hb⟩
    case measure => simp [intOf]; omega
  ·go_wp2_with fail
   go_ret
   exact ⟨ret_int (findI_none p xs (fun j hj => HD.out j hj (by omega))).symm, HB.out⟩
set_option maxRecDepth 100000 in
set_option maxHeartbeats 400000 in
theorem containsPartC_any  (v : Value) (xs : List Part) (p : Part -> Bool) (w : World) (hv : PartsV w v xs)
  (hf : ∀ i (h : i < xs.length) (tv cv : Value) (W : World), Below w.heap.size w W -> PartIs W tv cv xs[i] -> Calls Tryz.prog 91 #[.agg #[.int .i64 xs[i].level, tv, cv]] W fun e w' => e = .returned (.bool (p xs[i])) /\ Below W.heap.size W w') :
  Calls Tryz.prog 95 #[v, .func (.func 91) #[] #[]] w fun e w' => e = .returned (.bool (xs.any p)) /\ Below w.heap.size w w' := by
 have HI := Lib.hid (indexPartC_any  v xs p w hv hf)
 clear hf
 go_enter Tryz.func95, Tryz.ntmps95
 go_wp2_with fail
 refine HI.out.mono ?_
 rintro e w1 ⟨rfl, hb⟩
 go_wp2_with fail
 go_ret
 exact ⟨ret_bool (findI_any p xs), hb⟩
end Go.Proofs.YtooeeiiiflfckaaGreat
/- What the functions under config.Check answer: programs, ports, tasks. -/
namespace Go.Proofs.YtooeeiiiflfckaaGreat
open Go.RowKit
theorem all_step {α : Type} (p : α -> Bool) (xs : List α) (k : Nat) (h : k < xs.length) : (xs.drop k).all p = (p xs[k] && (xs.drop (k + 1)).all p) := by
 rw [List.drop_eq_getElem_cons h]
 rfl
set_option maxRecDepth 100000 in
set_option maxHeartbeats 400000 in
theorem codeMay_any (v : Value) (xs : List Instr) (w : World) (hv : CodeV w v xs) :
  Calls Tryz.prog 92 #[v] w fun e w' => e = .returned (.bool (codeMay xs)) /\ Below w.heap.size w w' := by
 obtain ⟨a, c, rfl, hv1, hv2, hv3, hv4⟩ := hv
 have HV := Lib.hid hv4
 clear hv4
 have hl1 : xs.length <= 1000000000000000 := by omega
 by_cases h64 : 64 < xs.length
 ·go_enter Tryz.func92, Tryz.ntmps92
  go_wp2_with fail
  go_ret
  exact ⟨ret_bool (by unfold codeMay; simp; omega), Below.refl _ _⟩
 ·go_enter Tryz.func92, Tryz.ntmps92
  go_wp2_with fail
  go_loopw [4, 10] (fun _ i wr => ∃ (k : Nat), k <= xs.length /\ i = .int .i64 k /\ Hid (xs.all (instrMay xs.length) = (xs.drop k).all (instrMay xs.length)) /\ Below w.heap.size w wr) (fun _ i _ => xs.length - (intOf i).toNat)
  case atStart => exact ⟨0, by omega, rfl, Lib.hid (by simp), Below.refl _ _⟩
  case round =>
   obtain ⟨k, hk, rfl, HD, hB⟩ := hrel
   have HB := Lib.hid hB
   clear hB
   by_cases hlt : k < xs.length
   ·obtain ⟨b, off, rfl, hcell⟩ := HV.out (by intro h; rw [h] at hlt; simp at hlt)
    obtain ⟨y0, y1⟩ := InstrAt.ext (Ext.below HB.out) (hcell k hlt)
    unfold IntAt at y0 y1
    clear hcell
    have hstep := all_step (instrMay xs.length) xs k hlt
    rw [<- HD.out] at hstep
    have HS := Lib.hid hstep
    clear hstep HD
    go_wp2_with fail
    refine wp_region_quiet_lit (by kernel_rfl) (by kernel_rfl) ?_
    repeat (any_goals (first | go_big_quiet_step ((go_at_call 124; exact Calls.quiet_of_same (below_any _ _ _))) | quiet_step ((go_at_call 124; exact Calls.quiet_of_same (below_any _ _ _))) | (refine wpQuiet_step (fun K hK => ?_); go_simp; split <;> (refine hK _ ?_; clear hK K))))
    all_goals (refine wpQuiet_nil ?_; intro _ hw'; obtain ⟨nq, hw''⟩ := hw'; subst hw'')
    all_goals go_wp2_with fail
    all_goals first
     | (go_ret
        exact ⟨ret_bool (by unfold codeMay; rw [HS.out]; simp [instrMay]; omega), bthen HB.out (below_drewN (balloc _ _) _)⟩)
     | (go_roundw
        case rel => exact ⟨k + 1, by omega, by go_num, Lib.hid (by rw [HS.out]; simp [instrMay]; omega), bthen HB.out (below_drewN (balloc _ _) _)⟩
        case measure => simp [intOf]; omega)
   ·have hfin : xs.all (instrMay xs.length) = true := by
     rw [HD.out, List.drop_of_length_le (by omega)]; rfl
    have HF := Lib.hid hfin
    clear hfin HD
    go_wp2_with fail
    go_ret
    exact ⟨ret_bool (by unfold codeMay; rw [HF.out, Bool.and_true]; (rw [Bool.eq_iff_iff]; (try simp only [beq_iff_eq, beq_eq_false_iff_ne, ne_eq] at *); (try simp); (try omega))), HB.out⟩
end Go.Proofs.YtooeeiiiflfckaaGreat
/- What the functions under config.Check answer: ports. -/
namespace Go.Proofs.YtooeeiiiflfckaaGreat
open Go.RowKit
theorem isPart_in (ps : List Part) (n : Nat) (l : Int) (h : n < ps.length) : isPart ps n l = decide (ps[n].level = l) := by
 unfold isPart
 rw [decide_eq_true (by omega), Bool.true_and]
 simp [h]
theorem isPart_out (ps : List Part) (p l : Int) (h : ¬ (0 <= p /\ p < ps.length)) : isPart ps p l = false := by
 unfold isPart
 rw [decide_eq_false h, Bool.false_and]
set_option maxRecDepth 100000 in
set_option maxHeartbeats 400000 in
theorem is_any (g : Nat) (c : Config) (p l : Int) (w : World) (hc : CfgP w g c) :
  Calls Tryz.prog 125 #[.pointer (some ⟨g, 0, none⟩), .int .i64 p, .int .i64 l] w fun e w' => e = .returned (.bool (isPart c.parts p l)) /\ w' = w := by
 obtain ⟨pv, wv, ov, h0, h1, h2, h3, h4, h5⟩ := hc
 obtain ⟨a, cap, rfl, hp1, hp2, hp3, hp4⟩ := h5.parts
 clear h0 h1 h3 h4 h5
 by_cases h : 0 <= p /\ p < c.parts.length
 ·obtain ⟨n, rfl⟩ := Int.eq_ofNat_of_zero_le h.1
  have hlt : n < c.parts.length := by omega
  obtain ⟨b, off, rfl, hcell⟩ := hp4 (by intro h; rw [h] at hlt; simp at hlt)
  obtain ⟨y0, -⟩ := hcell n hlt
  unfold IntAt at y0
  clear hcell
  have HI := Lib.hid (isPart_in c.parts n l hlt)
  go_enter Tryz.func125, Tryz.ntmps125
  go_wp2_with fail
  go_ret
  exact ⟨ret_bool (by rw [HI.out]; (rw [Bool.eq_iff_iff]; (try simp only [beq_iff_eq, beq_eq_false_iff_ne, ne_eq] at *); (try simp); (try omega))), rfl⟩
 ·have HI := Lib.hid (isPart_out c.parts p l h)
  clear hp4
  by_cases h0 : 0 <= p
  ·have h1 : (c.parts.length : Int) <= p := by omega
   go_enter Tryz.func125, Tryz.ntmps125
   go_wp2_with fail
   go_ret
   exact ⟨ret_bool HI.out.symm, rfl⟩
  ·have h1 : p < 0 := by omega
   go_enter Tryz.func125, Tryz.ntmps125
   go_wp2_with fail
   go_ret
   exact ⟨ret_bool HI.out.symm, rfl⟩
set_option maxRecDepth 100000 in
set_option maxHeartbeats 400000 in
theorem port_any (g : Nat) (c : Config) (x : Port) (w : World) (hc : CfgP w g c) :
  Calls Tryz.prog 94 #[.pointer (some ⟨g, 0, none⟩), portV x] w fun e w' => e = .returned (.bool (portMay c.parts x)) /\ Below w.heap.size w w' := by
 have HC := Lib.hid hc
 clear hc
 go_enter Tryz.func94, Tryz.ntmps94
 go_wp2_with (first | (go_at_call 125; refine (is_any g c _ _ _ (HC.out.ext (Ext.alloc _ _))).mono ?_; rintro e w' ⟨rfl, rfl⟩) | fail)
 all_goals
  go_ret
  exact ⟨ret_bool (by unfold portMay; (try simp only [beq_iff_eq, beq_eq_false_iff_ne, ne_eq] at *); simp [*] <;> omega), balloc _ _⟩
end Go.Proofs.YtooeeiiiflfckaaGreat
/- What the functions under config.Check answer: tasks. -/
namespace Go.Proofs.YtooeeiiiflfckaaGreat
open Go.RowKit
set_option maxRecDepth 100000 in
set_option maxHeartbeats 400000 in
theorem tasksClo_any (x : Task) (q : Nat) (n : Int) (w : World) (h : w.cell? ⟨q, 5, none⟩ = some (.int .i64 n)) :
  Calls Tryz.prog 121 #[taskV x, .pointer (some ⟨q, 0, none⟩)] w fun e w' => e = .returned (.bool (decide (x.prio = n))) /\ Below w.heap.size w w' := by
 have hq : q < w.heap.size := cell_lt h
 go_enter Tryz.func121, Tryz.ntmps121
 go_wp2_with fail
 go_ret
 exact ⟨ret_bool (by (rw [Bool.eq_iff_iff]; (try simp only [beq_iff_eq, beq_eq_false_iff_ne, ne_eq] at *); (try simp); (try omega))), balloc _ _⟩
theorem tasksFrom_step (l : Int) (ts : List Task) (k : Nat) (h : k < ts.length) :
  tasksFrom l ts k (ts.drop k) = ((taskMay ts[k] && !(decide (l = 0) && decide (ts[k].chigh ≠ ts[k].clow)) && !((ts.take k).any fun x => decide (x.prio = ts[k].prio))) && tasksFrom l ts (k + 1) (ts.drop (k + 1))) := by
 rw [List.drop_eq_getElem_cons h]
 rfl
set_option maxRecDepth 100000 in
set_option maxHeartbeats 800000 in
theorem tasks_any (g : Nat) (x : Part) (tv : Value) (w : World) (h0 : IntAt w g 0 x.level) (h1 : w.cell? ⟨g, 1, none⟩ = some tv) (ht : TasksV w tv x.tasks) :
  Calls Tryz.prog 90 #[.pointer (some ⟨g, 0, none⟩)] w fun e w' => e = .returned (.bool (tasksMay x)) /\ Below w.heap.size w w' := by
 have HT := Lib.hid ht
 obtain ⟨a, c, rfl, hv1, hv2, hv3, hv4⟩ := ht
 have HV := Lib.hid hv4
 have H0 := Lib.hid h0
 have H1 := Lib.hid h1
 clear hv4 h0
 have hl1 : x.tasks.length <= 1000000000000000 := by omega
 by_cases h6 : 6 < x.tasks.length
 ·go_enter Tryz.func90, Tryz.ntmps90
  go_wp2_with fail
  go_ret
  exact ⟨ret_bool (by unfold tasksMay; simp; omega), Below.refl _ _⟩
 ·go_enter Tryz.func90, Tryz.ntmps90
  go_wp2_with fail
  clear h1
  go_loopw [3, 4, 5, 17] (fun _ _ _ i wr => ∃ (k : Nat), k <= x.tasks.length /\ i = .int .i64 k /\ Hid (tasksFrom x.level x.tasks 0 x.tasks = tasksFrom x.level x.tasks k (x.tasks.drop k)) /\ Below w.heap.size w wr) (fun _ _ _ i _ => x.tasks.length - (intOf i).toNat)
  case atStart => exact ⟨0, by omega, rfl, Lib.hid (by simp), Below.refl _ _⟩
  case round =>
   obtain ⟨k, hk, rfl, HD, hB⟩ := hrel
   have HB := Lib.hid hB
   clear hB
   by_cases hlt : k < x.tasks.length
   ·obtain ⟨b, off, rfl, hcell⟩ := HV.out (by intro h; rw [h] at hlt; simp at hlt)
    obtain ⟨y0, y1, y2, y3, y4, y5⟩ := TaskAt.ext (Ext.below HB.out) (hcell k hlt)
    unfold IntAt at y0 y1 y2 y3 y4 y5
    clear hcell
    have hstep := tasksFrom_step x.level x.tasks k hlt
    rw [<- HD.out] at hstep
    have HS := Lib.hid hstep
    have hgw : g < wr.heap.size := Nat.lt_of_lt_of_le (cell_lt H1.out) HB.out.size
    have hbw : b < wr.heap.size := cell_lt y0
    have Y := Lib.hid (And.intro y0 (And.intro y1 (And.intro y2 (And.intro y3 (And.intro y4 y5)))))
    clear hstep HD
    go_wp2_with fail
    refine (taskMay_any _ _).mono ?_
    rintro e w1 ⟨rfl, hb⟩
    have hb' := bthen HB.out (bthen (balloc _ _) hb)
    have z0 : w1.cell? ⟨g, 0, none⟩ = some (.int .i64 x.level) := Ext.below hb' _ _ H0.out
    have z1 := Ext.below hb' _ _ H1.out
    have c3 : w1.cell? ⟨wr.heap.size, 3, none⟩ = some (.int .i64 x.tasks[k].clow) := Ext.below hb _ _ (box_at 3 rfl)
    have c4 : w1.cell? ⟨wr.heap.size, 4, none⟩ = some (.int .i64 x.tasks[k].chigh) := Ext.below hb _ _ (box_at 4 rfl)
    have c5 : w1.cell? ⟨wr.heap.size, 5, none⟩ = some (.int .i64 x.tasks[k].prio) := Ext.below hb _ _ (box_at 5 rfl)
    have HB' := Lib.hid hb'
    have HT1 := Lib.hid (SliceAt.take (HT.out.ext (Ext.below hb')) k hk)
    clear hb hb' y0 y1 y2 y3 y4 y5 HB
    cases hm : taskMay x.tasks[k] with
    | false =>
     have HM := Lib.hid hm
     clear hm
     go_wp2_with fail
     go_ret
     exact ⟨ret_bool (by unfold tasksMay; rw [HS.out, HM.out]; simp), HB'.out⟩
    | true =>
     have HM := Lib.hid hm
     clear hm
     by_cases hbad : x.level = 0 /\ x.tasks[k].chigh ≠ x.tasks[k].clow
     ·have e1 : (x.level == 0) = true := by simp [hbad.1]
      have e2 : (x.tasks[k].chigh != x.tasks[k].clow) = true := by simp [hbad.2]
      have HBd := Lib.hid hbad
      clear hbad
      go_wp2_with fail
      go_ret
      exact ⟨ret_bool (by unfold tasksMay; rw [HS.out, HM.out]; simp [HBd.out.1, HBd.out.2]), HB'.out⟩
     ·have hg : (!(decide (x.level = 0) && decide (x.tasks[k].chigh ≠ x.tasks[k].clow))) = true := by
       simp only [Bool.not_eq_true', Bool.and_eq_false_iff, decide_eq_false_iff_not]
       by_cases q : x.level = 0
       ·right; intro r; exact hbad ⟨q, r⟩
       ·left; exact q
      have HG := Lib.hid hg
      have hcases : (x.level == 0) = false ∨ (x.level == 0) = true /\ (x.tasks[k].chigh != x.tasks[k].clow) = false := by
       by_cases q : x.level = 0
       ·right; exact ⟨by simp [q], by simp; exact Classical.byContradiction fun r => hbad ⟨q, r⟩⟩
       ·left; simp [q]
      clear hg hbad
      have hany := containsTask_any (.pointer (some ⟨wr.heap.size, 0, none⟩)) (.slice (some ⟨b, off, none⟩) k c) (x.tasks.take k) (fun y => decide (y.prio = x.tasks[k].prio)) w1 HT1.out
       (fun i h W hW => tasksClo_any _ _ _ W (Ext.below hW _ _ c5))
      have HA := Lib.hid hany
      clear hany
      have hkc : k <= c := by omega
      rcases hcases with e1 | ⟨e1, e2⟩
      all_goals
       go_wp2_with fail
       refine HA.out.mono ?_
       rintro e w2 ⟨rfl, hb2⟩
       cases hcon : (x.tasks.take k).any (fun y => decide (y.prio = x.tasks[k].prio)) with
       | false =>
        have HN := Lib.hid hcon
        clear hcon
        go_wp2_with fail
        go_roundw
        case rel => exact ⟨k + 1, by omega, by go_num, Lib.hid (by rw [HS.out, HM.out, HG.out, HN.out]; simp), bthen HB'.out hb2⟩
        case measure => simp [intOf]; omega
       | true =>
        have HN := Lib.hid hcon
        clear hcon
        go_wp2_with fail
        go_ret
        exact ⟨ret_bool (by unfold tasksMay; rw [HS.out, HM.out, HG.out, HN.out]; simp), bthen HB'.out hb2⟩
   ·have hfin : tasksFrom x.level x.tasks 0 x.tasks = true := by
     rw [HD.out, List.drop_of_length_le (by omega)]; rfl
    have HF := Lib.hid hfin
    clear hfin HD
    go_wp2_with fail
    go_ret
    exact ⟨ret_bool (by unfold tasksMay; rw [HF.out, Bool.and_true]; (rw [Bool.eq_iff_iff]; (try simp only [beq_iff_eq, beq_eq_false_iff_ne, ne_eq] at *); (try simp); (try omega))), HB.out⟩
end Go.Proofs.YtooeeiiiflfckaaGreat
/- What config.Check answers. -/
namespace Go.Proofs.YtooeeiiiflfckaaGreat
open Go.RowKit
set_option maxRecDepth 100000 in
set_option maxHeartbeats 400000 in
theorem chkA_any (x : Part) (tv cv : Value) (w : World) :
  Calls Tryz.prog 87 #[.agg #[.int .i64 x.level, tv, cv]] w fun e w' => e = .returned (.bool (!levelMay x)) /\ Below w.heap.size w w' := by
 go_enter Tryz.func87, Tryz.ntmps87
 go_wp2_with fail
 refine (level_any _ _).mono ?_
 rintro e w' ⟨rfl, rfl⟩
 go_wp2_with fail
 go_ret
 exact ⟨ret_bool (by unfold levelMay; (rw [Bool.eq_iff_iff]; (try simp only [beq_iff_eq, beq_eq_false_iff_ne, ne_eq] at *); (try simp); (try omega))), balloc _ _⟩
set_option maxRecDepth 100000 in
set_option maxHeartbeats 400000 in
theorem chkB_any (x : Part) (tv cv : Value) (w : World) (hx : PartIs w tv cv x) :
  Calls Tryz.prog 89 #[.agg #[.int .i64 x.level, tv, cv]] w fun e w' => e = .returned (.bool (!tasksMay x)) /\ Below w.heap.size w w' := by
 go_enter Tryz.func89, Tryz.ntmps89
 go_wp2_with fail
 refine (tasks_any w.heap.size x tv _ (box_at 0 rfl) (box_at 1 rfl) (hx.tasks.ext (Ext.alloc _ _))).mono ?_
 rintro e w' ⟨rfl, hb⟩
 go_wp2_with fail
 go_ret
 exact ⟨rfl, bthen (balloc _ _) hb⟩
set_option maxRecDepth 100000 in
set_option maxHeartbeats 400000 in
theorem chkC_any (x : Part) (tv cv : Value) (w : World) (hx : PartIs w tv cv x) :
  Calls Tryz.prog 91 #[.agg #[.int .i64 x.level, tv, cv]] w fun e w' => e = .returned (.bool (!codeMay x.code)) /\ Below w.heap.size w w' := by
 go_enter Tryz.func91, Tryz.ntmps91
 go_wp2_with fail
 refine (codeMay_any cv x.code _ (hx.code.ext (Ext.alloc _ _))).mono ?_
 rintro e w' ⟨rfl, hb⟩
 go_wp2_with fail
 go_ret
 exact ⟨rfl, bthen (balloc _ _) hb⟩
set_option maxRecDepth 100000 in
set_option maxHeartbeats 400000 in
theorem chkD_any (g : Nat) (c : Config) (x : Port) (w : World) (hc : CfgP w g c) :
  Calls Tryz.prog 93 #[portV x, .pointer (some ⟨g, 0, none⟩)] w fun e w' => e = .returned (.bool (!portMay c.parts x)) /\ Below w.heap.size w w' := by
 have HC := Lib.hid hc
 clear hc
 go_enter Tryz.func93, Tryz.ntmps93
 go_wp2_with fail
 refine (port_any g c x _ (HC.out.ext (Ext.alloc _ _))).mono ?_
 rintro e w' ⟨rfl, hb⟩
 go_wp2_with fail
 go_ret
 exact ⟨rfl, bthen (balloc _ _) hb⟩
theorem cfg_box (w : World) (c : Config) (pv wv ov : Value) (t : TypeId) (h : CfgIs w pv wv ov c) : CfgC (w.alloc (.cells #[.int .i64 c.frame, .int .i64 c.quiet, pv, wv, ov] t)) w.heap.size pv wv ov c :=
 ⟨box_at 0 rfl, box_at 1 rfl, box_at 2 rfl, box_at 3 rfl, box_at 4 rfl, h.ext (Ext.alloc _ _)⟩
set_option maxRecDepth 100000 in
set_option maxHeartbeats 1000000 in
theorem check_any (c : Config) (v : Value) (w : World) (hc : CfgV w v c) :
  Calls Tryz.prog 55 #[v] w fun e w' => e = .returned (.int .i64 (checkCfg c)) /\ Below w.heap.size w w' := by
 obtain ⟨pv, wv, ov, rfl, hcfg⟩ := hc
 have HC := Lib.hid hcfg
 obtain ⟨pa, pcap, rfl, hp1, hp2, hp3, hp4⟩ := hcfg.parts
 obtain ⟨oa, ocap, rfl, ho1, ho2, ho3, ho4⟩ := hcfg.ports
 clear hp4 ho4 hcfg
 by_cases hb1 : c.frame < 1 ∨ c.frame > 256 ∨ c.quiet < 1 ∨ c.quiet > 16
 ·have HX : Hid (checkCfg c = 501) := Lib.hid (by unfold checkCfg; rw [if_pos hb1])
  have hb1 := Lib.hid hb1
  go_enter Tryz.func55, Tryz.ntmps55
  go_wp2_with fail
  all_goals first
   | (go_ret; exact ⟨ret_int HX.out.symm, balloc _ _⟩)
   | (exfalso; have := hb1.out; omega)
 by_cases hb2 : c.parts.length < 1 ∨ c.parts.length > 8
 ·have HX : Hid (checkCfg c = 502) := Lib.hid (by unfold checkCfg; rw [if_neg hb1, if_pos (by omega)])
  have f1 : 1 <= c.frame := by omega
  have f2 : c.frame <= 256 := by omega
  have f3 : 1 <= c.quiet := by omega
  have f4 : c.quiet <= 16 := by omega
  have hb2 := Lib.hid hb2
  clear hb1
  go_enter Tryz.func55, Tryz.ntmps55
  go_wp2_with fail
  all_goals first
   | (go_ret; exact ⟨ret_int HX.out.symm, balloc _ _⟩)
   | (exfalso; have := hb2.out; omega)
 have f1 : 1 <= c.frame := by omega
 have f2 : c.frame <= 256 := by omega
 have f3 : 1 <= c.quiet := by omega
 have f4 : c.quiet <= 16 := by omega
 have f5 : 1 <= c.parts.length := by omega
 have f6 : c.parts.length <= 8 := by omega
 have HB1 := Lib.hid hb1
 clear hb1 hb2
 obtain ⟨g, hg⟩ : ∃ g, g = w.heap.size := ⟨_, rfl⟩
 go_enter Tryz.func55, Tryz.ntmps55
 go_wp2_with fail
 have hbox := cfg_box w c _ _ _ 26 HC.out
 obtain ⟨w0, hw0⟩ : ∃ w0 : World, w0 = w.alloc (.cells #[.int .i64 c.frame, .int .i64 c.quiet, .slice pa c.parts.length pcap, wv, .slice oa c.ports.length ocap] 26) := ⟨_, rfl⟩
 rw [<- hw0, <- hg] at hbox
 rw [<- hw0, <- hg]
 have hB0 : Below w.heap.size w w0 := by rw [hw0]; exact balloc _ _
 have HB0 := Lib.hid hB0
 have HP := Lib.hid hbox
 have HCC := Lib.hid (HC.out.ext (Ext.below hB0))
 clear hB0 hbox hw0 hg HC
 refine (containsPartA_any _ c.parts (fun p => !levelMay p) w0 HCC.out.parts (fun i h tv cv W hW hp => chkA_any _ _ _ W)).mono ?_
 rintro e w1 ⟨rfl, hb1⟩
 cases hA : c.parts.any (fun p => !levelMay p) with
 | true =>
  have HX : Hid (checkCfg c = 502) := Lib.hid (by unfold checkCfg; rw [if_neg HB1.out, if_pos (Or.inr (Or.inr hA))])
  clear hA
  go_wp2_with fail
  go_ret
  exact ⟨ret_int HX.out.symm, bthen HB0.out hb1⟩
 | false =>
 have HA : Hid (¬ (c.parts.length < 1 ∨ c.parts.length > 8 ∨ c.parts.any (fun p => !levelMay p) = true)) := Lib.hid (by rw [hA]; rintro (h | h | h); omega; omega; exact Bool.noConfusion h)
 clear hA
 have HB2 := Lib.hid (bthen HB0.out hb1)
 have HP1 := Lib.hid (HP.out.ext (Ext.below hb1))
 have r2 := HP1.out.c2
 clear hb1 HB0 HCC HP
 go_wp2_with fail
 refine (containsPartB_any _ c.parts (fun p => !tasksMay p) w1 HP1.out.is.parts (fun i h tv cv W hW hp => chkB_any _ _ _ W hp)).mono ?_
 rintro e w2 ⟨rfl, hb2⟩
 clear r2
 cases hB : c.parts.any (fun p => !tasksMay p) with
 | true =>
  have HX : Hid (checkCfg c = 503) := Lib.hid (by unfold checkCfg; rw [if_neg HB1.out, if_neg HA.out, if_pos hB])
  clear hB
  go_wp2_with fail
  go_ret
  exact ⟨ret_int HX.out.symm, bthen HB2.out hb2⟩
 | false =>
 have HBB : Hid (¬ (c.parts.any (fun p => !tasksMay p) = true)) := Lib.hid (by rw [hB]; exact Bool.noConfusion)
 clear hB
 have HB3 := Lib.hid (bthen HB2.out hb2)
 have HP2 := Lib.hid (HP1.out.ext (Ext.below hb2))
 clear hb2 HB2 HP1
 go_wp2_with fail
 refine (windows_any g c w2 HP2.out.p).mono ?_
 rintro e w3 ⟨rfl, hb3⟩
 cases hW : windowsMay c with
 | false =>
  have HX : Hid (checkCfg c = 504) := Lib.hid (by unfold checkCfg; rw [if_neg HB1.out, if_neg HA.out, if_neg HBB.out, if_pos hW])
  clear hW
  go_wp2_with fail
  go_ret
  exact ⟨ret_int HX.out.symm, bthen HB3.out hb3⟩
 | true =>
 have HWW : Hid (¬ (windowsMay c = false)) := Lib.hid (by rw [hW]; exact Bool.noConfusion)
 clear hW
 have HB4 := Lib.hid (bthen HB3.out hb3)
 have HP3 := Lib.hid (HP2.out.ext (Ext.below hb3))
 clear hb3 HB3 HP2
 have r4 := HP3.out.c4
 by_cases h8 : 8 < c.ports.length
 ·have HX : Hid (checkCfg c = 505) := Lib.hid (by unfold checkCfg; rw [if_neg HB1.out, if_neg HA.out, if_neg HBB.out, if_neg HWW.out, if_pos (Or.inl h8)])
  go_wp2_with fail
  go_ret
  exact ⟨ret_int HX.out.symm, HB4.out⟩
 have h8' : c.ports.length <= 8 := by omega
 go_wp2_with fail
 refine (containsPort_any _ _ c.ports (fun p => !portMay c.parts p) w3 HP3.out.is.ports (fun i h W hW => chkD_any g c _ W (HP3.out.ext (Ext.below hW)).p)).mono ?_
 rintro e w4 ⟨rfl, hb4⟩
 clear r4
 cases hD : c.ports.any (fun p => !portMay c.parts p) with
 | true =>
  have HX : Hid (checkCfg c = 505) := Lib.hid (by unfold checkCfg; rw [if_neg HB1.out, if_neg HA.out, if_neg HBB.out, if_neg HWW.out, if_pos (Or.inr hD)])
  clear hD
  go_wp2_with fail
  go_ret
  exact ⟨ret_int HX.out.symm, bthen HB4.out hb4⟩
 | false =>
 have HDD : Hid (¬ (c.ports.length > 8 ∨ c.ports.any (fun p => !portMay c.parts p) = true)) := Lib.hid (by rw [hD]; rintro (h | h); omega; exact Bool.noConfusion h)
 clear hD
 have HB5 := Lib.hid (bthen HB4.out hb4)
 have HP4 := Lib.hid (HP3.out.ext (Ext.below hb4))
 clear hb4 HB4 HP3
 have r2 := HP4.out.c2
 go_wp2_with fail
 refine (containsPartC_any _ c.parts (fun p => !codeMay p.code) w4 HP4.out.is.parts (fun i h tv cv W hW hp => chkC_any _ _ _ W hp)).mono ?_
 rintro e w5 ⟨rfl, hb5⟩
 clear r2
 cases hC : c.parts.any (fun p => !codeMay p.code) with
 | true =>
  have HX : Hid (checkCfg c = 506) := Lib.hid (by unfold checkCfg; rw [if_neg HB1.out, if_neg HA.out, if_neg HBB.out, if_neg HWW.out, if_neg HDD.out, if_pos hC])
  clear hC
  go_wp2_with fail
  go_ret
  exact ⟨ret_int HX.out.symm, bthen HB5.out hb5⟩
 | false =>
 have HX : Hid (checkCfg c = 0) := Lib.hid (by unfold checkCfg; rw [if_neg HB1.out, if_neg HA.out, if_neg HBB.out, if_neg HWW.out, if_neg HDD.out, if_neg (by rw [hC]; exact Bool.noConfusion)])
 clear hC
 go_wp2_with fail
 go_ret
 exact ⟨ret_int HX.out.symm, bthen HB5.out hb5⟩
end Go.Proofs.YtooeeiiiflfckaaGreat
