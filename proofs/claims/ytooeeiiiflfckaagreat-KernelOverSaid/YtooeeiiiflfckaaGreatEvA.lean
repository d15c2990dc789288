/- Several texts of this claim as one. -/
import Derived.Test.YtooeeiiiflfckaaGreatChkA
import Derived.Test.YtooeeiiiflfckaaGreatLibA
import Derived.Laws.OwnMore
import Derived.Deep.RegionLaw
import Derived.Deep.RegionHeld3
import Derived.Deep.DeepCutAuto
/- What the functions of package frame answer: Owner, At, Share. -/
set_option linter.unusedVariables false
set_option linter.unusedSimpArgs false
namespace Go.Proofs.YtooeeiiiflfckaaGreat
open Go.RowKit
theorem ret_pair {k l : IntKind} {p : Int × Int} {x y : Int} (h : p = (x, y)) : Ending.returned (.tuple #[.int k x, .int l y]) = .returned (.tuple #[.int k p.1, .int l p.2]) := by rw [h]
theorem ownerAt_step (t : Int) (ws : List Window) (k : Nat) (h : k < ws.length) :
  ownerAt t (ws.drop k) = if ws[k].from_ <= t /\ t < ws[k].to_ then ws[k].part else ownerAt t (ws.drop (k + 1)) := by
 rw [List.drop_eq_getElem_cons h]
 rfl
theorem shareOf_step (p : Int) (ws : List Window) (k : Nat) (h : k < ws.length) :
  shareOf p (ws.drop k) = (if ws[k].part = p then ws[k].to_ - ws[k].from_ else 0) + shareOf p (ws.drop (k + 1)) := by
 rw [List.drop_eq_getElem_cons h]
 rfl
set_option maxRecDepth 100000 in
set_option maxHeartbeats 400000 in
theorem owner_any (g : Nat) (wv : Value) (ws : List Window) (t : Int) (w : World) (h3 : w.cell? ⟨g, 3, none⟩ = some wv) (hw : WindowsV w wv ws) :
  Calls Tryz.prog 74 #[.pointer (some ⟨g, 0, none⟩), .int .i64 t] w fun e w' => e = .returned (.int .i64 (ownerAt t ws)) /\ Below w.heap.size w w' := by
 obtain ⟨a, c, rfl, hv1, hv2, hv3, hv4⟩ := hw
 have HV := Lib.hid hv4
 clear hv4
 have hl1 : ws.length <= 1000000000000000 := by omega
 go_enter Tryz.func74, Tryz.ntmps74
 go_wp2_with fail
 go_loopw [6, 12] (fun _ i wr => ∃ (k : Nat), k <= ws.length /\ i = .int .i64 k /\ Hid (ownerAt t ws = ownerAt t (ws.drop k)) /\ Below w.heap.size w wr) (fun _ i _ => ws.length - (intOf i).toNat)
 case atStart => exact ⟨0, by omega, rfl, Lib.hid (by simp), Below.refl _ _⟩
 case round =>
  obtain ⟨k, hk, rfl, HD, hB⟩ := hrel
  have HB := Lib.hid hB
  clear hB h3
  by_cases hlt : k < ws.length
  ·obtain ⟨b, off, rfl, hcell⟩ := HV.out (by intro h; rw [h] at hlt; simp at hlt)
   obtain ⟨y0, y1, y2⟩ := WindowAt.ext (Ext.below HB.out) (hcell k hlt)
   unfold IntAt at y0 y1 y2
   clear hcell
   have hstep := ownerAt_step t ws k hlt
   rw [<- HD.out] at hstep
   have HS := Lib.hid hstep
   clear hstep HD
   go_wp2_with fail
   all_goals first
    | (go_ret
       exact ⟨ret_int (by rw [HS.out, if_pos (by omega)]), bthen HB.out (balloc _ _)⟩)
    | (go_roundw
       case rel => exact ⟨k + 1, by omega, by go_num, Lib.hid (by rw [HS.out, if_neg (by omega)]), bthen HB.out (balloc _ _)⟩
       case measure => simp [intOf]; omega)
  ·have hfin : ownerAt t ws = -1 := by
    rw [HD.out, List.drop_of_length_le (by omega)]; rfl
   have HF := Lib.hid hfin
   clear hfin HD
   go_wp2_with fail
   go_ret
   exact ⟨ret_int HF.out.symm, HB.out⟩
theorem winsFrom_all (f n : Int) (ws : List Window) : ∀ (e : Int), winsFrom f n e ws = true -> ∀ x ∈ ws, e <= x.from_ /\ x.from_ < x.to_ /\ x.to_ <= f /\ 0 <= x.part /\ x.part < n := by
 induction ws with
 | nil => intro e _ x hx; simp at hx
 | cons y r ih =>
  intro e h x hx
  unfold winsFrom at h
  simp only [Bool.and_eq_true, decide_eq_true_eq] at h
  rcases List.mem_cons.1 hx with rfl | hx
  ·exact h.1
  ·have := ih _ h.2 x hx
   omega
theorem check_ok {c : Config} (h : checkCfg c = 0) : 1 <= c.frame /\ c.frame <= 256 /\ 1 <= c.quiet /\ c.quiet <= 16 /\ 1 <= c.parts.length /\ c.parts.length <= 8 /\ c.windows.length <= 32 /\ winsFrom c.frame c.parts.length 0 c.windows = true := by
 unfold checkCfg at h
 split at h
 ·omega
 split at h
 ·omega
 split at h
 ·omega
 split at h
 ·omega
 rename_i h1 h2 h3 h4
 have h4 : windowsMay c = true := by simpa using h4
 unfold windowsMay at h4
 simp only [Bool.and_eq_true, decide_eq_true_eq] at h4
 refine ⟨by omega, by omega, by omega, by omega, by omega, by omega, h4.2, h4.1⟩
set_option maxRecDepth 100000 in
set_option maxHeartbeats 1000000 in
theorem share_any (c : Config) (v : Value) (p : Int) (w : World) (hc : CfgV w v c) :
  Calls Tryz.prog 57 #[v, .int .i64 p] w fun e w' => e = .returned (.tuple #[.int .i64 (shareSpec c p).1, .int .i64 (shareSpec c p).2]) /\ Below w.heap.size w w' := by
 obtain ⟨pv, wv, ov, rfl, hcfg⟩ := hc
 have HC := Lib.hid hcfg
 obtain ⟨pa, pcap, rfl, hp1, hp2, hp3, hp4⟩ := hcfg.parts
 obtain ⟨wa, wcap, rfl, hw1, hw2, hw3, hw4⟩ := hcfg.windows
 have HW := Lib.hid hw4
 clear hp4 hw4 hcfg
 have hl1 : c.windows.length <= 1000000000000000 := by omega
 go_enter Tryz.func57, Tryz.ntmps57
 go_wp2_with fail
 refine (check_any c _ _ ⟨_, _, ov, rfl, HC.out.ext (Ext.alloc _ _)⟩).mono ?_
 rintro e w1 ⟨rfl, hb1⟩
 have hbox := (cfg_box w c _ _ _ 26 HC.out).ext (Ext.below hb1)
 have HB1 := Lib.hid (bthen (balloc _ _) hb1)
 have z2 := hbox.c2
 have z3 := hbox.c3
 clear hb1 hbox
 by_cases hk : checkCfg c = 0
 ·have HO := Lib.hid (check_ok hk)
  have e1 : (checkCfg c != 0) = false := by rw [hk]; rfl
  by_cases hp : p < 0 ∨ p >= c.parts.length
  ·have HS : Hid (shareSpec c p = (0, 600)) := Lib.hid (by unfold shareSpec; rw [if_pos (Or.inr hp)])
   have HP := Lib.hid hp
   clear hk hp
   go_wp2_with fail
   all_goals first
    | (go_ret2; exact ⟨ret_pair HS.out, HB1.out⟩)
    | (exfalso; have := HP.out; omega)
  ·have HS : Hid (shareSpec c p = (shareOf p c.windows, 0)) := Lib.hid (by unfold shareSpec; rw [if_neg (by omega)])
   have p0 : 0 <= p := by omega
   have p1 : p < c.parts.length := by omega
   clear hk hp
   go_wp2_with fail
   obtain ⟨wo, rfl⟩ : ∃ wo : World, wo = w1 := ⟨_, rfl⟩
   go_loopw [6, 8, 26] (fun o _ i wr => ∃ (k : Nat) (ov : Int), k <= c.windows.length /\ i = .int .i64 k /\ o = .int .i64 ov /\ 0 <= ov /\ ov <= 256 * k /\ Hid (shareOf p c.windows = ov + shareOf p (c.windows.drop k)) /\ Below w.heap.size w wr) (fun _ _ i _ => c.windows.length - (intOf i).toNat)
   case atStart => exact ⟨0, 0, by omega, rfl, rfl, by omega, by omega, Lib.hid (by simp), HB1.out⟩
   case round =>
    obtain ⟨k, ov, hk, rfl, rfl, ho1, ho2, HD, hB⟩ := hrel
    have HB := Lib.hid hB
    clear hB
    by_cases hlt : k < c.windows.length
    ·obtain ⟨b, off, rfl, hcell⟩ := HW.out (by intro h; rw [h] at hlt; simp at hlt)
     obtain ⟨y0, y1, y2⟩ := WindowAt.ext (Ext.below HB.out) (hcell k hlt)
     unfold IntAt at y0 y1 y2
     clear hcell
     have hstep := shareOf_step p c.windows k hlt
     have HS2 := Lib.hid hstep
     have hwin := winsFrom_all _ _ _ _ HO.out.2.2.2.2.2.2.2 c.windows[k] (List.getElem_mem hlt)
     have hfr := HO.out.2.1
     have b0 : 0 <= c.windows[k].from_ := by omega
     have b1 : c.windows[k].from_ < c.windows[k].to_ := by omega
     have b2 : c.windows[k].to_ <= 256 := by omega
     have hk32 : k < 32 := by have := HO.out.2.2.2.2.2.2.1; omega
     clear hstep hwin hfr
     go_wp2_with fail
     all_goals
      go_roundw
      case rel => first
       | exact ⟨k + 1, _, by omega, by go_num, rfl, by omega, by omega, Lib.hid (by rw [HD.out, HS2.out, if_pos (by simp_all)]; omega), bthen HB.out (balloc _ _)⟩
       | exact ⟨k + 1, _, by omega, by go_num, rfl, by omega, by omega, Lib.hid (by rw [HD.out, HS2.out, if_neg (by simp_all)]; omega), bthen HB.out (balloc _ _)⟩
      case measure => simp [intOf]; omega
    ·have hfin : shareOf p c.windows = ov := by
      rw [HD.out, List.drop_of_length_le (by omega)]; simp [shareOf]
     have HF := Lib.hid hfin
     clear hfin HD
     go_wp2_with fail
     go_ret2
     exact ⟨ret_pair (by rw [HS.out, HF.out]), HB.out⟩
 ·have HS : Hid (shareSpec c p = (0, 600)) := Lib.hid (by unfold shareSpec; rw [if_pos (Or.inl hk)])
  have e1 : (checkCfg c != 0) = true := by simpa using hk
  clear hk
  go_wp2_with fail
  go_ret2
  exact ⟨ret_pair HS.out, HB1.out⟩
end Go.Proofs.YtooeeiiiflfckaaGreat
/- The configuration that the laws try themselves on. -/
namespace Go.Proofs.YtooeeiiiflfckaaGreat
open Go.RowKit
def plainCfg : Config := ⟨10, 2, [⟨1, [⟨0, 10, 10, 2, 4, 1⟩], [⟨1, 7⟩, ⟨9, 0⟩]⟩, ⟨0, [⟨1, 5, 5, 3, 3, 0⟩], []⟩], [⟨0, 5, 0⟩, ⟨6, 9, 1⟩], [⟨1, 0, 1, 2⟩]⟩
theorem task_of {W : World} {b o : Nat} {cs : Array Value} (h : BlockIs W b cs) (x : Task) (h0 : cs[o]? = some (.int .i64 x.kind)) (h1 : cs[o + 1]? = some (.int .i64 x.period)) (h2 : cs[o + 2]? = some (.int .i64 x.deadline)) (h3 : cs[o + 3]? = some (.int .i64 x.clow)) (h4 : cs[o + 4]? = some (.int .i64 x.chigh)) (h5 : cs[o + 5]? = some (.int .i64 x.prio)) : TaskAt W b o x :=
 ⟨h _ _ h0, h _ _ h1, h _ _ h2, h _ _ h3, h _ _ h4, h _ _ h5⟩
theorem plain_at {W : World} {b1 b2 b3 b4 b5 b6 : Nat}
  (h1 : BlockIs W b1 #[.int .i64 0, .int .i64 10, .int .i64 10, .int .i64 2, .int .i64 4, .int .i64 1])
  (h2 : BlockIs W b2 #[.int .i64 1, .int .i64 7, .int .i64 9, .int .i64 0])
  (h3 : BlockIs W b3 #[.int .i64 1, .int .i64 5, .int .i64 5, .int .i64 3, .int .i64 3, .int .i64 0])
  (h4 : BlockIs W b4 #[.int .i64 1, .slice (some ⟨b1, 0, none⟩) 1 1, .slice (some ⟨b2, 0, none⟩) 2 2, .int .i64 0, .slice (some ⟨b3, 0, none⟩) 1 1, .slice none 0 0])
  (h5 : BlockIs W b5 #[.int .i64 0, .int .i64 5, .int .i64 0, .int .i64 6, .int .i64 9, .int .i64 1])
  (h6 : BlockIs W b6 #[.int .i64 1, .int .i64 0, .int .i64 1, .int .i64 2]) :
  CfgV W (.agg #[.int .i64 10, .int .i64 2, .slice (some ⟨b4, 0, none⟩) 2 2, .slice (some ⟨b5, 0, none⟩) 2 2, .slice (some ⟨b6, 0, none⟩) 1 1]) plainCfg := by
 have t1 : TasksV W (.slice (some ⟨b1, 0, none⟩) 1 1) [⟨0, 10, 10, 2, 4, 1⟩] := slice1 (by decide) (task_of h1 _ rfl rfl rfl rfl rfl rfl)
 have t3 : TasksV W (.slice (some ⟨b3, 0, none⟩) 1 1) [⟨1, 5, 5, 3, 3, 0⟩] := slice1 (by decide) (task_of h3 _ rfl rfl rfl rfl rfl rfl)
 have c2 : CodeV W (.slice (some ⟨b2, 0, none⟩) 2 2) [⟨1, 7⟩, ⟨9, 0⟩] := slice2 (by decide) (show InstrAt W b2 0 ⟨1, 7⟩ from ⟨h2 0 _ rfl, h2 1 _ rfl⟩) (show InstrAt W b2 2 ⟨9, 0⟩ from ⟨h2 2 _ rfl, h2 3 _ rfl⟩)
 have p1 : PartAt W b4 0 ⟨1, [⟨0, 10, 10, 2, 4, 1⟩], [⟨1, 7⟩, ⟨9, 0⟩]⟩ := ⟨h4 0 _ rfl, _, _, h4 1 _ rfl, h4 2 _ rfl, ⟨t1, c2⟩⟩
 have p2 : PartAt W b4 3 ⟨0, [⟨1, 5, 5, 3, 3, 0⟩], []⟩ := ⟨h4 3 _ rfl, _, _, h4 4 _ rfl, h4 5 _ rfl, ⟨t3, slice0 _ _ _ _⟩⟩
 have w1 : WindowAt W b5 0 ⟨0, 5, 0⟩ := ⟨h5 0 _ rfl, h5 1 _ rfl, h5 2 _ rfl⟩
 have w2 : WindowAt W b5 3 ⟨6, 9, 1⟩ := ⟨h5 3 _ rfl, h5 4 _ rfl, h5 5 _ rfl⟩
 have o1 : PortAt W b6 0 ⟨1, 0, 1, 2⟩ := ⟨h6 0 _ rfl, h6 1 _ rfl, h6 2 _ rfl, h6 3 _ rfl⟩
 exact ⟨_, _, _, rfl, ⟨slice2 (by decide) p1 p2, slice2 (by decide) w1 w2, slice1 (by decide) o1⟩⟩
set_option maxRecDepth 100000 in
set_option maxHeartbeats 1000000 in
theorem plain22_any (w : World) :
  Calls Tryz.prog 20 #[] w fun e w' => ∃ v, e = .returned v /\ CfgV w' v plainCfg /\ Below w.heap.size w w' := by
 go_enter Tryz.func20, Tryz.ntmps20
 go_wp2_with fail
 refine bodyPost_ret (v := .agg #[.int .i64 10, .int .i64 2, .slice (some ⟨w.heap.size + 1 + 1 + 1 + 1, 0, none⟩) 2 2, .slice (some ⟨w.heap.size + 1 + 1 + 1 + 1 + 1, 0, none⟩) 2 2, .slice (some ⟨w.heap.size + 1 + 1 + 1 + 1 + 1 + 1, 0, none⟩) 1 1]) (by simp [results, Tryz.results20, go_sem]) rfl ⟨_, rfl, ?_, ?_⟩
 ·refine plain_at (b1 := w.heap.size + 1) (b2 := w.heap.size + 1 + 1) (b3 := w.heap.size + 1 + 1 + 1) (BlockIs.of (t := 51) (fr := (0, 0)) ?_) (BlockIs.of (t := 66) (fr := (0, 0)) ?_) (BlockIs.of (t := 51) (fr := (0, 0)) ?_) (BlockIs.of (t := 49) (fr := (0, 0)) ?_) (BlockIs.of (t := 61) (fr := (0, 0)) ?_) (BlockIs.of (t := 121) (fr := (0, 0)) ?_)
  all_goals simp only [heap_push, Array.getElem?_push, Array.size_push]; simp
 ·repeat (first | exact Below.refl _ _ | refine Below.alloc ?_ (by simp <;> omega) _)
end Go.Proofs.YtooeeiiiflfckaaGreat
/- Copying a slice onto a row of the call's own. -/
namespace Go.Proofs.YtooeeiiiflfckaaGreat
open Go.RowKit
end Go.Proofs.YtooeeiiiflfckaaGreat
/- Events: how they lie in memory; law0's functions at events. -/
namespace Go.Proofs.YtooeeiiiflfckaaGreat
open Go.RowKit
structure Event where
 kind : Int
 part : Int
 task : Int
 value : Int
deriving DecidableEq
def EventAt (w : World) (b o : Nat) (x : Event) : Prop := IntAt w b o x.kind /\ IntAt w b (o + 1) x.part /\ IntAt w b (o + 2) x.task /\ IntAt w b (o + 3) x.value
theorem EventAt.ext {w w' : World} (e : Ext w w') {b o : Nat} {x : Event} (h : EventAt w b o x) : EventAt w' b o x := ⟨h.1.ext e, h.2.1.ext e, h.2.2.1.ext e, h.2.2.2.ext e⟩
def EventsV (w : World) (v : Value) (xs : List Event) : Prop := SliceAt EventAt 4 32 w v xs
theorem EventsV.ext {w w' : World} (e : Ext w w') {v : Value} {xs : List Event} (h : EventsV w v xs) : EventsV w' v xs := SliceAt.ext (fun _ _ _ => EventAt.ext e) h
theorem EventsV.shape {w : World} {v : Value} {xs : List Event} (h : EventsV w v xs) : ∃ a cap, v = .slice a xs.length cap := by
 obtain ⟨a, cap, h1, -⟩ := h
 exact ⟨a, cap, h1⟩
theorem infoEvent : (Tryz.prog.info? 45).map (fun i => (i.zero, i.size, i.bytes)) = some (some (.agg #[.int .i64 0, .int .i64 0, .int .i64 0, .int .i64 0]), 4, 32) := by kernel_rfl
def evCells (x : Event) : List Value := [.int .i64 x.kind, .int .i64 x.part, .int .i64 x.task, .int .i64 x.value]
abbrev evV (x : Event) : Value := .agg #[.int .i64 x.kind, .int .i64 x.part, .int .i64 x.task, .int .i64 x.value]
theorem flatEvent : Flat EventAt 4 evCells where
 pos := by decide
 len _ := rfl
 one x u hu := by simp [evCells] at hu; rcases hu with rfl | rfl | rfl | rfl <;> rfl
 of W b o x h := ⟨h 0 _ rfl, h 1 _ rfl, h 2 _ rfl, h 3 _ rfl⟩
 cell W b o x h j u hu := by
  obtain ⟨h0, h1, h2, h3⟩ := h
  match j, hu with
  | 0, hu => injection hu with hu; subst hu; exact h0
  | 1, hu => injection hu with hu; subst hu; exact h1
  | 2, hu => injection hu with hu; subst hu; exact h2
  | 3, hu => injection hu with hu; subst hu; exact h3
def EvRow (W : World) (B : Nat) (v : Value) (es : List Event) : Prop := W.ownsRow B 45 4 v es.length (es.flatMap evCells)
theorem EvRow.snoc {W : World} {B : Nat} {v : Value} {es : List Event} {x : Event} {n : Nat} (hn : n = es.length) (h : W.ownsRow B 45 4 v (n + 1) (es.flatMap evCells ++ evCells x)) : EvRow W B v (es ++ [x]) := by
 subst hn
 unfold EvRow
 rw [List.length_append, List.flatMap_append]
 simpa using h
theorem EvRow.events {W : World} {B : Nat} {v : Value} {es : List Event} (h : EvRow W B v es) (hB : es.length * 32 <= 140737488351232) : EventsV W v es := flatEvent.slice h hB
set_option maxRecDepth 100000 in
set_option maxHeartbeats 400000 in
theorem sameEvents_any (v v' : Value) (xs : List Event) (w : World) (hv : EventsV w v xs) (hv' : EventsV w v' xs) :
  Calls Tryz.prog 28 #[v, v'] w fun e w' => e = .returned (.bool true) /\ Below w.heap.size w w' := by
 obtain ⟨a, cap, rfl, h2, h3, h4, h5⟩ := hv
 obtain ⟨a', cap', rfl, -, h3', h4', h5'⟩ := hv'
 have H := Lib.hid h5
 have H' := Lib.hid h5'
 have hl : xs.length <= 1000000000000000000 := by omega
 clear h5 h5'
 go_enter Tryz.func28, Tryz.ntmps28
 go_wp2_with fail
 go_loopw [5] (fun i wr => ∃ k : Nat, k <= xs.length /\ i = .int .i64 k /\ Below w.heap.size w wr) (fun i _ => xs.length - (intOf i).toNat)
 case atStart => exact ⟨0, by omega, rfl, Below.refl _ _⟩
 case round =>
  obtain ⟨k, hk, rfl, hB⟩ := hrel
  have HB := Lib.hid hB
  clear hB
  by_cases hlt : k < xs.length
  ·obtain ⟨b, off, rfl, hc⟩ := H.out (by intro h; rw [h] at hlt; simp at hlt)
   obtain ⟨b', off', rfl, hc'⟩ := H'.out (by intro h; rw [h] at hlt; simp at hlt)
   have q := EventAt.ext (Ext.below HB.out) (hc k hlt)
   have q' := EventAt.ext (Ext.below HB.out) (hc' k hlt)
   obtain ⟨y0, y1, y2, y3⟩ := q
   obtain ⟨q0, q1, q2, q3⟩ := q'
   unfold IntAt at *
   clear hc hc'
   go_wp2_with fail
   go_quiet (fail)
   go_wp2_with fail
   go_roundw
   case rel => exact ⟨k + 1, by omega, by go_num, below_drewN HB.out _⟩
   case measure => simp [intOf]; omega
  ·go_wp2_with fail
   go_ret
   exact ⟨rfl, HB.out⟩
end Go.Proofs.YtooeeiiiflfckaaGreat
