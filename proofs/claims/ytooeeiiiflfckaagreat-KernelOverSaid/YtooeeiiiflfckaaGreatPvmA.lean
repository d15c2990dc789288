/- Several texts of this claim as one. -/
import Derived.Test.YtooeeiiiflfckaaGreatVmD
import Derived.Test.YtooeeiiiflfckaaGreatLibA
import Derived.Test.YtooeeiiiflfckaaGreatTskA
import Derived.Test.YtooeeiiiflfckaaGreatPrtA
import Derived.Deep.MidRow
import Derived.Test.YtooeeiiiflfckaaGreatChkA
/- package pvm: an instruction under way, in memory. -/
set_option linter.unusedVariables false
set_option linter.unusedSimpArgs false
namespace Go.Proofs.YtooeeiiiflfckaaGreat
open Go.RowKit
def stTail (inw outs : Int) (gv : Value) (f : Eff) : List Value := [vi inw, vi outs, gv, .bool f.took, vi f.write, vi f.get, vi f.value, .bool f.fault]
def stCells (v : Vm) (inw outs : Int) (gv : Value) (f : Eff) : List Value := vi v.pc :: vi v.acc :: (v.mem.map vi ++ stTail inw outs gv f)
structure StAt (W : World) (g : Nat) (v : Vm) (inw outs : Int) (gv : Value) (f : Eff) : Prop where
 blk : W.heap[g]? = some (.cells (stCells v inw outs gv f).toArray 221 (0, 0))
 len : v.mem.length = 16
theorem StAt.keep {W W' : World} {g : Nat} {v : Vm} {inw outs : Int} {gv : Value} {f : Eff} (h : StAt W g v inw outs gv f) (hb : W'.heap[g]? = W.heap[g]?) : StAt W' g v inw outs gv f := ⟨hb.trans h.blk, h.len⟩
theorem StAt.al {W : World} {g : Nat} {v : Vm} {inw outs : Int} {gv : Value} {f : Eff} (h : StAt W g v inw outs gv f) (o : Obj) : StAt (W.alloc o) g v inw outs gv f := h.keep ((balloc W o).block g (lt_of_block h.blk))
theorem StAt.pc {W : World} {g : Nat} {v : Vm} {inw outs : Int} {gv : Value} {f : Eff} (h : StAt W g v inw outs gv f) : W.cell? ⟨g, 0, none⟩ = some (.int .i64 v.pc) := BlockIs.of h.blk 0 _ rfl
theorem StAt.acc {W : World} {g : Nat} {v : Vm} {inw outs : Int} {gv : Value} {f : Eff} (h : StAt W g v inw outs gv f) : W.cell? ⟨g, 1, none⟩ = some (.int .i64 v.acc) := BlockIs.of h.blk 1 _ rfl
theorem StAt.mem {W : World} {g : Nat} {v : Vm} {inw outs : Int} {gv : Value} {f : Eff} (h : StAt W g v inw outs gv f) {j : Nat} (hj : j < 16) : W.cell? ⟨g, 2 + j, none⟩ = some (.int .i64 (v.mem.getD j 0)) := by
 refine BlockIs.of h.blk (2 + j) _ ?_
 have hl := h.len
 rw [List.getElem?_toArray, show 2 + j = (j + 1) + 1 from by omega]
 unfold stCells
 rw [List.getElem?_cons_succ, List.getElem?_cons_succ, List.getElem?_append_left (by rw [List.length_map]; omega), List.getElem?_map, List.getElem?_eq_getElem (by omega), List.getD_eq_getElem?_getD, List.getElem?_eq_getElem (by omega)]
 rfl
theorem StAt.tl {W : World} {g : Nat} {v : Vm} {inw outs : Int} {gv : Value} {f : Eff} (h : StAt W g v inw outs gv f) {t : Nat} {u : Value} (hu : (stTail inw outs gv f)[t]? = some u) : W.cell? ⟨g, 18 + t, none⟩ = some u := by
 refine BlockIs.of h.blk (18 + t) _ ?_
 have hl := h.len
 rw [List.getElem?_toArray, show 18 + t = (16 + t + 1) + 1 from by omega]
 unfold stCells
 rw [List.getElem?_cons_succ, List.getElem?_cons_succ, List.getElem?_append_right (by rw [List.length_map]; omega), List.length_map, hl, show 16 + t - 16 = t from by omega]
 exact hu
theorem StAt.setPc {W : World} {g : Nat} {v : Vm} {inw outs : Int} {gv : Value} {f : Eff} (h : StAt W g v inw outs gv f) (x : Int) : StAt (W.setCell ⟨g, 0, none⟩ (.int .i64 x)) g { v with pc := x } inw outs gv f := ⟨blk_set h.blk 0 _, h.len⟩
theorem StAt.setAcc {W : World} {g : Nat} {v : Vm} {inw outs : Int} {gv : Value} {f : Eff} (h : StAt W g v inw outs gv f) (x : Int) : StAt (W.setCell ⟨g, 1, none⟩ (.int .i64 x)) g { v with acc := x } inw outs gv f := ⟨blk_set h.blk 1 _, h.len⟩
theorem StAt.setMem {W : World} {g : Nat} {v : Vm} {inw outs : Int} {gv : Value} {f : Eff} (h : StAt W g v inw outs gv f) {j : Nat} (hj : j < 16) (x : Int) : StAt (W.setCell ⟨g, 2 + j, none⟩ (.int .i64 x)) g { v with mem := v.mem.set j x } inw outs gv f := by
 have hl := h.len
 refine ⟨?_, by simpa using h.len⟩
 have := blk_set h.blk (2 + j) (.int .i64 x)
 rw [List.setIfInBounds_toArray, show 2 + j = (j + 1) + 1 from by omega] at this
 unfold stCells at this |-
 rw [List.set_cons_succ, List.set_cons_succ, List.set_append_left _ _ (by rw [List.length_map]; omega), show (Value.int .i64 x) = vi x from rfl, <- List.map_set, show (j + 1) + 1 = 2 + j from by omega] at this
 exact this
theorem StAt.setTl {W : World} {g : Nat} {v : Vm} {inw outs inw' outs' : Int} {gv gv' : Value} {f f' : Eff} (h : StAt W g v inw outs gv f) {t : Nat} {u : Value} (hu : (stTail inw outs gv f).set t u = stTail inw' outs' gv' f') : StAt (W.setCell ⟨g, 18 + t, none⟩ u) g v inw' outs' gv' f' := by
 have hl := h.len
 refine ⟨?_, h.len⟩
 have := blk_set h.blk (18 + t) u
 rw [List.setIfInBounds_toArray, show 18 + t = (16 + t + 1) + 1 from by omega] at this
 unfold stCells at this |-
 rw [List.set_cons_succ, List.set_cons_succ, List.set_append_right _ _ (by rw [List.length_map]; omega), List.length_map, hl, show 16 + t - 16 = t from by omega, hu, show (16 + t + 1) + 1 = 18 + t from by omega] at this
 exact this
set_option maxRecDepth 100000 in
set_option maxHeartbeats 1000000 in
theorem fault_any (g : Nat) (v : Vm) (inw outs : Int) (gv : Value) (f : Eff) (w : World) (h : StAt w g v inw outs gv f) :
  Calls Tryz.prog 141 #[.pointer (some ⟨g, 0, none⟩)] w fun e w' => e = .returned (.tuple #[]) /\ StAt w' g { v with pc := 0, acc := 0 } inw outs gv { f with fault := true } /\ w.grownBy w' (some g) := by
 have HH := Lib.hid h
 have f0 := thaw h.blk 0
 have f1 := thaw h.blk 1
 have f25 := thaw h.blk 25
 have x0 := h.pc
 have x1 := h.acc
 have x25 := h.tl (t := 7) (u := .bool f.fault) rfl
 clear h
 go_enter Tryz.func141, Tryz.ntmps141
 go_wp2_with fail
 go_end0
 refine ⟨rfl, ?_, ?_⟩
 ·exact ((HH.out.setTl (t := 7) (u := .bool true) (f' := { f with fault := true }) rfl).setPc 0).setAcc 0
 ·exact grown_trans (grown_trans (set_grown _ _ _ _) (set_grown _ _ _ _)) (set_grown _ _ _ _)
set_option maxRecDepth 100000 in
set_option maxHeartbeats 4000000 in
theorem reckon_any (g : Nat) (v : Vm) (inw outs : Int) (gv : Value) (f : Eff) (i : Instr) (w : World) (h : StAt w g v inw outs gv f) (ha : 2 <= i.op -> i.op <= 5 -> 0 <= i.arg /\ i.arg < 16) (hc : word v.acc = true) (hm : v.mem.all word = true) :
  Calls Tryz.prog 113 #[.pointer (some ⟨g, 0, none⟩), .agg #[.int .i64 i.op, .int .i64 i.arg]] w fun e w' => e = .returned (.tuple #[]) /\ StAt w' g (reckon v i) inw outs gv f /\ w.grownBy w' (some g) := by
 obtain ⟨op, arg⟩ := i
 have hbl := balloc w (.cells #[.int .i64 op, .int .i64 arg] 66)
 have hb := blk_new w (.cells #[.int .i64 op, .int .i64 arg] 66)
 have y0 := BlockIs.of hb 0 _ rfl
 have y1 := BlockIs.of hb 1 _ rfl
 have h1 := h.al (.cells #[.int .i64 op, .int .i64 arg] 66)
 have HW := Lib.hid h
 have HH := Lib.hid h1
 have HB := Lib.hid (show w.grownBy _ (some g) from below_grown hbl _)
 have x1 := h1.acc
 have f1 := thaw h1.blk 1
 simp only at ha
 clear h hbl hb
 go_enter Tryz.func113, Tryz.ntmps113
 by_cases e1 : op = 1
 ·subst e1
  have e : reckon v ⟨1, arg⟩ = { v with acc := arg } := by simp [reckon]
  rw [e]
  clear h1 e
  go_wp2_with fail
  go_end0
  exact ⟨rfl, HH.out.setAcc arg, grown_trans HB.out (set_grown _ _ _ _)⟩
 by_cases e2 : op = 2
 ·subst e2
  obtain ⟨j, rfl⟩ : ∃ j : Nat, arg = j := ⟨arg.toNat, by have := ha (by decide) (by decide); omega⟩
  have hj : j < 16 := by have := ha (by decide) (by decide); omega
  have c1 : (j : Int) < 16 := by omega
  obtain ⟨mj, hmj⟩ : ∃ mj, mj = v.mem.getD j 0 := ⟨_, rfl⟩
  have HM := Lib.hid hmj
  have e : reckon v ⟨2, (j : Int)⟩ = { v with acc := mj } := by rw [hmj]; simp [reckon]
  rw [e]
  clear h1 ha x1 f1 e hmj
  go_wp2_with fail
  refine region_tail 11 (by kernel_rfl) (by kernel_rfl) ?_
  intro wy hy hby
  have hY := HH.out.keep (W' := wy) (by rw [hy])
  have HY := Lib.hid hY
  have HG := Lib.hid (grown_trans HB.out (below_grown hby _))
  have z1 := (cell_of_heap hy _).trans y1
  have x1 := hY.acc
  have x2 := hY.mem hj
  rw [<- HM.out] at x2
  have f2 := thaw hY.blk 1
  clear hY hy hby y0 y1
  simp only [List.take_succ_cons, List.take_zero, List.drop_succ_cons, List.drop_zero]
  repeat still_step
  refine wpStill_nil ?_
  go_wp2_with fail
  go_end0
  exact ⟨rfl, HY.out.setAcc _, grown_trans HG.out (set_grown _ _ _ _)⟩
 by_cases e3 : op = 3
 ·subst e3
  obtain ⟨j, rfl⟩ : ∃ j : Nat, arg = j := ⟨arg.toNat, by have := ha (by decide) (by decide); omega⟩
  have hj : j < 16 := by have := ha (by decide) (by decide); omega
  have c1 : (j : Int) < 16 := by omega
  obtain ⟨mj, hmj⟩ : ∃ mj, mj = v.mem.getD j 0 := ⟨_, rfl⟩
  have HM := Lib.hid hmj
  have e : reckon v ⟨3, (j : Int)⟩ = { v with mem := v.mem.set j v.acc } := by simp [reckon]
  rw [e]
  clear h1 ha x1 f1 e hmj
  go_wp2_with fail
  refine region_tail 12 (by kernel_rfl) (by kernel_rfl) ?_
  intro wy hy hby
  have hY := HH.out.keep (W' := wy) (by rw [hy])
  have HY := Lib.hid hY
  have HG := Lib.hid (grown_trans HB.out (below_grown hby _))
  have z1 := (cell_of_heap hy _).trans y1
  have x1 := hY.acc
  have x2 := hY.mem hj
  rw [<- HM.out] at x2
  have f2 := thaw hY.blk (2 + j)
  clear hY hy hby y0 y1
  simp only [List.take_succ_cons, List.take_zero, List.drop_succ_cons, List.drop_zero]
  repeat still_step
  refine wpStill_nil ?_
  go_wp2_with fail
  go_end0
  exact ⟨rfl, HY.out.setMem hj _, grown_trans HG.out (set_grown _ _ _ _)⟩
 by_cases e4 : op = 4
 ·subst e4
  obtain ⟨j, rfl⟩ : ∃ j : Nat, arg = j := ⟨arg.toNat, by have := ha (by decide) (by decide); omega⟩
  have hj : j < 16 := by have := ha (by decide) (by decide); omega
  have c1 : (j : Int) < 16 := by omega
  obtain ⟨mj, hmj⟩ : ∃ mj, mj = v.mem.getD j 0 := ⟨_, rfl⟩
  have HM := Lib.hid hmj
  have e : reckon v ⟨4, (j : Int)⟩ = { v with acc := (v.acc + mj) % 4294967296 } := by rw [hmj]; simp [reckon]
  rw [e]
  have hw1 : 0 <= v.acc /\ v.acc < 4294967296 := by simpa [word] using hc
  have hw2 : 0 <= v.mem.getD j 0 /\ v.mem.getD j 0 < 4294967296 := by
   rw [List.getD_eq_getElem?_getD, List.getElem?_eq_getElem (by rw [HH.out.len]; exact hj)]
   have := List.all_eq_true.1 hm _ (List.getElem_mem (by rw [HH.out.len]; exact hj) : v.mem[j]'(by rw [HH.out.len]; exact hj) ∈ v.mem)
   simpa [word] using this
  rw [<- hmj] at hw2
  have s1 : IntKind.i64.wrap (v.acc + mj) = v.acc + mj := by rw [IntKind.wrap_i64]; omega
  have s2 : (v.acc + mj).tmod 4294967296 = (v.acc + mj) % 4294967296 := Int.tmod_eq_emod_of_nonneg (by omega)
  have s3 : IntKind.i64.wrap ((v.acc + mj) % 4294967296) = (v.acc + mj) % 4294967296 := by rw [IntKind.wrap_i64]; omega
  clear hw1 hw2
  clear h1 ha x1 f1 e hmj
  go_wp2_with fail
  refine region_tail 19 (by kernel_rfl) (by kernel_rfl) ?_
  intro wy hy hby
  have hY := HH.out.keep (W' := wy) (by rw [hy])
  have HY := Lib.hid hY
  have HG := Lib.hid (grown_trans HB.out (below_grown hby _))
  have z1 := (cell_of_heap hy _).trans y1
  have x1 := hY.acc
  have x2 := hY.mem hj
  rw [<- HM.out] at x2
  have f2 := thaw hY.blk 1
  clear hY hy hby y0 y1
  simp only [List.take_succ_cons, List.take_zero, List.drop_succ_cons, List.drop_zero]
  repeat still_step
  refine wpStill_nil ?_
  go_wp2_with fail
  go_end0
  exact ⟨rfl, HY.out.setAcc _, grown_trans HG.out (set_grown _ _ _ _)⟩
 by_cases e5 : op = 5
 ·subst e5
  obtain ⟨j, rfl⟩ : ∃ j : Nat, arg = j := ⟨arg.toNat, by have := ha (by decide) (by decide); omega⟩
  have hj : j < 16 := by have := ha (by decide) (by decide); omega
  have c1 : (j : Int) < 16 := by omega
  obtain ⟨mj, hmj⟩ : ∃ mj, mj = v.mem.getD j 0 := ⟨_, rfl⟩
  have HM := Lib.hid hmj
  have e : reckon v ⟨5, (j : Int)⟩ = { v with acc := (v.acc - mj) % 4294967296 } := by rw [hmj]; simp [reckon]
  rw [e]
  have hw1 : 0 <= v.acc /\ v.acc < 4294967296 := by simpa [word] using hc
  have hw2 : 0 <= v.mem.getD j 0 /\ v.mem.getD j 0 < 4294967296 := by
   rw [List.getD_eq_getElem?_getD, List.getElem?_eq_getElem (by rw [HH.out.len]; exact hj)]
   have := List.all_eq_true.1 hm _ (List.getElem_mem (by rw [HH.out.len]; exact hj) : v.mem[j]'(by rw [HH.out.len]; exact hj) ∈ v.mem)
   simpa [word] using this
  rw [<- hmj] at hw2
  have s0 : IntKind.i64.wrap (v.acc - mj) = v.acc - mj := by rw [IntKind.wrap_i64]; omega
  have s1 : IntKind.i64.wrap (v.acc - mj + 4294967296) = v.acc - mj + 4294967296 := by rw [IntKind.wrap_i64]; omega
  have s2 : (v.acc - mj + 4294967296).tmod 4294967296 = (v.acc - mj + 4294967296) % 4294967296 := Int.tmod_eq_emod_of_nonneg (by omega)
  have s3 : IntKind.i64.wrap ((v.acc - mj + 4294967296) % 4294967296) = (v.acc - mj + 4294967296) % 4294967296 := by rw [IntKind.wrap_i64]; omega
  clear hw1 hw2
  clear h1 ha x1 f1 e hmj
  go_wp2_with fail
  refine region_tail 20 (by kernel_rfl) (by kernel_rfl) ?_
  intro wy hy hby
  have hY := HH.out.keep (W' := wy) (by rw [hy])
  have HY := Lib.hid hY
  have HG := Lib.hid (grown_trans HB.out (below_grown hby _))
  have z1 := (cell_of_heap hy _).trans y1
  have x1 := hY.acc
  have x2 := hY.mem hj
  rw [<- HM.out] at x2
  have f2 := thaw hY.blk 1
  clear hY hy hby y0 y1
  simp only [List.take_succ_cons, List.take_zero, List.drop_succ_cons, List.drop_zero]
  repeat still_step
  refine wpStill_nil ?_
  go_wp2_with fail
  go_end0
  exact ⟨rfl, HY.out.setAcc _, grown_trans HG.out (set_grown _ _ _ _)⟩
 ·have e : reckon v ⟨op, arg⟩ = v := by simp [reckon, e1, e2, e3, e4, e5]
  rw [e]
  clear h1 ha x1 f1 e
  go_wp2_with fail
  go_end0
  exact ⟨rfl, HH.out, HB.out⟩
end Go.Proofs.YtooeeiiiflfckaaGreat
/- package pvm: leap, reach. -/
namespace Go.Proofs.YtooeeiiiflfckaaGreat
open Go.RowKit
set_option maxRecDepth 100000 in
set_option maxHeartbeats 4000000 in
theorem leap_any (g : Nat) (v : Vm) (inw outs : Int) (gv : Value) (f : Eff) (i : Instr) (w : World) (h : StAt w g v inw outs gv f) :
  Calls Tryz.prog 114 #[.pointer (some ⟨g, 0, none⟩), .agg #[.int .i64 i.op, .int .i64 i.arg]] w fun e w' => e = .returned (.tuple #[]) /\ StAt w' g (leap v i) inw outs gv f /\ w.grownBy w' (some g) := by
 obtain ⟨op, arg⟩ := i
 have hbl := balloc w (.cells #[.int .i64 op, .int .i64 arg] 66)
 have hb := blk_new w (.cells #[.int .i64 op, .int .i64 arg] 66)
 have y0 := BlockIs.of hb 0 _ rfl
 have y1 := BlockIs.of hb 1 _ rfl
 have h1 := h.al (.cells #[.int .i64 op, .int .i64 arg] 66)
 have HH := Lib.hid h1
 have HB := Lib.hid (show w.grownBy _ (some g) from below_grown hbl _)
 have x0 := h1.pc
 have x1 := h1.acc
 have f1 := thaw h1.blk 0
 clear h hbl hb h1
 go_enter Tryz.func114, Tryz.ntmps114
 by_cases e6 : op = 6
 ·subst e6
  rw [show leap v ⟨6, arg⟩ = { v with pc := arg } by simp [leap]]
  go_wp2_with fail
  go_end0
  exact ⟨rfl, HH.out.setPc _, grown_trans HB.out (set_grown _ _ _ _)⟩
 by_cases e7 : op = 7
 ·subst e7
  by_cases ea : v.acc = 0
  ·rw [show leap v ⟨7, arg⟩ = { v with pc := arg } by simp [leap, ea]]
   go_wp2_with fail
   go_end0
   exact ⟨rfl, HH.out.setPc _, grown_trans HB.out (set_grown _ _ _ _)⟩
  ·rw [show leap v ⟨7, arg⟩ = v by simp [leap, ea]]
   go_wp2_with fail
   go_end0
   exact ⟨rfl, HH.out, HB.out⟩
 by_cases e11 : op = 11
 ·subst e11
  rw [show leap v ⟨11, arg⟩ = { v with pc := 0 } by simp [leap]]
  go_wp2_with fail
  go_end0
  exact ⟨rfl, HH.out.setPc _, grown_trans HB.out (set_grown _ _ _ _)⟩
 ·rw [show leap v ⟨op, arg⟩ = v by simp [leap, e6, e7, e11]]
  go_wp2_with fail
  go_end0
  exact ⟨rfl, HH.out, HB.out⟩
end Go.Proofs.YtooeeiiiflfckaaGreat
/- package pvm: reach. -/
namespace Go.Proofs.YtooeeiiiflfckaaGreat
open Go.RowKit
def OutV (g B j : Nat) (acc : Int) (a : Nat) (v : Value) : Prop := match a with
 | 0 => v = .pointer (some ⟨g, 0, none⟩)
 | 1 => v = .pointer (some ⟨g, 0, none⟩)
 | 2 => v = .pointer (some ⟨B, 1, none⟩)
 | 3 => v = .int .i64 (j : Int)
 | 4 => v = .pointer (some ⟨g, 0, none⟩)
 | 5 => v = .pointer (some ⟨g, 0, none⟩)
 | 6 => v = .pointer (some ⟨g, 0, none⟩)
 | 7 => v = .pointer (some ⟨g, 1, none⟩)
 | 8 => v = .int .i64 acc
 | 9 => v = .pointer (some ⟨g, 0, none⟩)
 | 10 => v = .pointer (some ⟨g, 21, none⟩)
 | 11 => v = .pointer (some ⟨g, 22, none⟩)
 | 13 => v = .pointer (some ⟨g, 0, none⟩)
 | 14 => v = .pointer (some ⟨g, 21, none⟩)
 | 15 => v = .pointer (some ⟨g, 24, none⟩)
 | _ => True
def outE (j : Nat) (acc : Int) (a b : Bool) : Eff := { noEff with write := if a = true then (j : Int) else -1, value := if b = true then acc else 0 }
def OutT (w : World) (g B j : Nat) (ac : Int) (v : Vm) (inw outs : Int) (gv : Value) (L : Nat -> Bool) (W : World) : Prop := w.grownBy W (some g) /\ StAt W g v inw outs gv (outE j ac (L 12) (L 16)) /\ W.cell? ⟨B, 1, none⟩ = some (.int .i64 (j : Int))
theorem cell_blkp {W W' : World} {a : Addr} (h : W'.heap[a.block]? = W.heap[a.block]?) : W'.cell? a = W.cell? a := by
 unfold World.cell?
 rw [h]
theorem cell_ne_set {W : World} {B g o k : Nat} {x u : Value} (h : W.cell? ⟨B, k, none⟩ = some x) (hne : ¬ g = B) : (W.setCell ⟨g, o, none⟩ u).cell? ⟨B, k, none⟩ = some x := by
 have hlt : B < W.heap.size := by
  cases hq : W.heap[B]? with
  | none => unfold World.cell? at h; simp [hq] at h
  | some o => exact lt_of_block hq
 rw [cell_blkp (a := ⟨B, k, none⟩) ((set_grown W g o u).block B hlt (fun e => hne (by injection e with e; first | exact e | exact e.symm)))]; exact h
set_option maxRecDepth 100000 in
set_option maxHeartbeats 8000000 in
theorem reach_any (g : Nat) (v : Vm) (inw outs : Int) (gets : List Int) (gv : Value) (i : Instr) (w : World) (h : StAt w g v inw outs gv noEff) (ha : 9 <= i.op -> i.op <= 10 -> 0 <= i.arg /\ i.arg < 8) (ho : 0 <= outs /\ outs <= 255) (hg : IntsV w gv gets) (hgl : gets.length <= 8) :
  Calls Tryz.prog 115 #[.pointer (some ⟨g, 0, none⟩), .agg #[.int .i64 i.op, .int .i64 i.arg]] w fun e w' => e = .returned (.tuple #[]) /\ StAt w' g (reach v inw outs gets i).1 inw outs gv (reach v inw outs gets i).2 /\ w.grownBy w' (some g) := by
 obtain ⟨op, arg⟩ := i
 have n1 : ¬ (g = w.heap.size) := by have := lt_of_block h.blk; omega
 have n2 : ¬ (w.heap.size = g) := by omega
 have hbl := balloc w (.cells #[.int .i64 op, .int .i64 arg] 66)
 have hb := blk_new w (.cells #[.int .i64 op, .int .i64 arg] 66)
 have y0 := BlockIs.of hb 0 _ rfl
 have y1 := BlockIs.of hb 1 _ rfl
 have h1 := h.al (.cells #[.int .i64 op, .int .i64 arg] 66)
 have HH := Lib.hid h1
 have HB := Lib.hid (show w.grownBy _ (some g) from below_grown hbl _)
 have HV := Lib.hid (hg.ext (Ext.alloc w (.cells #[.int .i64 op, .int .i64 arg] 66)))
 simp only at ha
 have x0 := h1.pc
 have x1 := h1.acc
 have x18 := h1.tl (t := 0) (u := .int .i64 inw) rfl
 have x19 := h1.tl (t := 1) (u := .int .i64 outs) rfl
 have x20 := h1.tl (t := 2) (u := gv) rfl
 have x21 := h1.tl (t := 3) (u := .bool false) rfl
 have x22 := h1.tl (t := 4) (u := .int .i64 (-1)) rfl
 have x23 := h1.tl (t := 5) (u := .int .i64 (-1)) rfl
 have x24 := h1.tl (t := 6) (u := .int .i64 0) rfl
 have f1 := thaw h1.blk 1
 have f21 := thaw h1.blk 21
 have f22 := thaw h1.blk 22
 have f23 := thaw h1.blk 23
 have f24 := thaw h1.blk 24
 clear h hbl hb h1 hg
 go_enter Tryz.func115, Tryz.ntmps115
 by_cases e8 : op = 8
 ·subst e8
  rw [show reach v inw outs gets ⟨8, arg⟩ = ({ v with acc := inw }, { noEff with took := true }) by simp [reach]]
  clear ha ho
  go_wp2_with fail
  go_end0
  exact ⟨rfl, (HH.out.setAcc inw).setTl (t := 3) (u := .bool true) (f' := { noEff with took := true }) rfl, grown_trans HB.out (grown_trans (set_grown _ _ _ _) (set_grown _ _ _ _))⟩
 by_cases e9 : op = 9
 ·subst e9
  obtain ⟨j, rfl⟩ : ∃ j : Nat, arg = j := ⟨arg.toNat, by have := ha (by decide) (by decide); omega⟩
  have hj : j < 8 := by have := ha (by decide) (by decide); omega
  have c1 : ¬ (j : Int) < 0 := by omega
  clear ha ho
  by_cases hb : outs / 2 ^ j % 2 = 0
  ·rw [show reach v inw outs gets ⟨9, (j : Int)⟩ = ({ v with pc := 0, acc := 0 }, { noEff with fault := true }) by simp [reach, hb, faultOf]]
   have s1 : (bits BinOp.and IntKind.i64 (outs / 2 ^ j) 1 == 0) = true := by rw [i64_and1]; simp [hb]
   clear hb
   go_wp2_with fail
   go_quiet (fail)
   go_wp2_with fail
   refine (fault_any g v inw outs gv noEff _ (by exact HH.out.keep rfl)).mono ?_
   rintro e w5 ⟨rfl, h5, g5⟩
   go_wp2_with fail
   (try simp only [Exit.inBlock, Exit.then]); refine bodyPost_ret (results_none rfl _ _ _) rfl ?_
   exact ⟨rfl, h5, grown_trans (grown_trans HB.out (below_grown (below_drewN (Below.refl _ _) _) _)) g5⟩
  ·have s1 : (bits BinOp.and IntKind.i64 (outs / 2 ^ j) 1 == 0) = false := by rw [i64_and1]; simpa using hb
   obtain ⟨ac, hac⟩ : ∃ ac, ac = v.acc := ⟨_, rfl⟩
   rw [show reach v inw outs gets ⟨9, (j : Int)⟩ = (v, { noEff with write := j, value := ac }) by rw [hac]; simp [reach, hb]]
   have HAC := Lib.hid hac
   clear hac
   clear hb
   go_wp2_with fail
   go_quiet (fail)
   rename_i nq hnq
   go_wp2_with fail
   have HNE := Lib.hid n1
   have HS0 := Lib.hid (show OutT w g w.heap.size j ac v inw outs gv (fun _ => false) _ from ⟨grown_trans HB.out (grown_trans (below_grown (below_drewN (Below.refl _ _) nq) _) (below_grown (below_drew (Below.refl _ _)) _)), HH.out.keep rfl, y1⟩)
   obtain ⟨B, hB⟩ : ∃ B, B = w.heap.size := ⟨_, rfl⟩
   rw [<- hB] at HS0 HNE |-
   clear hB
   clear x0 x1 x18 x19 x20 x21 x22 x23 x24 f1 f21 f22 f23 f24 y0 y1 n1 n2 s1
   refine region_inv0 rfl (by kernel_rfl) (WInv (OutV g B j ac) (fun L W => OutT w g B j ac v inw outs gv L W)) (fun vs h0 => ⟨(fun i h => by cases h), HS0.out⟩) ?_ ?_
   ·simp (config := { maxSteps := 4000000 }) only [List.map, putAll, Act.put, InvE, List.setIfInBounds_toArray, List.set_cons_succ, List.set_cons_zero, Nat.reduceAdd]
    refine ⟨?_, ?_, ?_, ?_, ?_, ?_, ?_, ?_, ?_, ?_, ?_, ?_, ?_, ?_, ?_, ?_, ?_, trivial⟩
    all_goals intro L vs W hI hi hn hcl K hK
    ·rw [if_pos (by simp [Region.wanted])]
     have HK := Lib.hid (fun (v : Value) (h : v = .pointer (some ⟨g, 0, none⟩)) => hK v W ⟨pv_upd hI.pv h, hI.st⟩)
     clear hK hI hn hcl hi
     go_simp
     exact HK.out _ rfl
    ·rw [if_pos (by simp [Region.wanted])]
     have HK := Lib.hid (fun (v : Value) (h : v = .pointer (some ⟨g, 0, none⟩)) => hK v W ⟨pv_upd hI.pv h, hI.st⟩)
     clear hK hI hn hcl hi
     go_simp
     exact HK.out _ rfl
    ·rw [if_pos (by simp [Region.wanted])]
     have HK := Lib.hid (fun (v : Value) (h : v = .pointer (some ⟨B, 1, none⟩)) => hK v W ⟨pv_upd hI.pv h, hI.st⟩)
     clear hK hI hn hcl hi
     go_simp
     exact HK.out _ rfl
    ·have r2 : vs 2 = _ := hI.pv 2 (hn 2 rfl)
     rw [if_pos (by simp [Region.wanted])]
     have hS := hI.st
     have b1 := hS.2.2
     simp only [r2] at hK |-
     have HK := Lib.hid (fun (v : Value) (h : v = .int .i64 (j : Int)) => hK v W ⟨pv_upd hI.pv h, hI.st⟩)
     clear hK hI hn hcl hi
     go_simp
     exact HK.out _ rfl
    ·rw [if_pos (by simp [Region.wanted])]
     have HK := Lib.hid (fun (v : Value) (h : v = .pointer (some ⟨g, 0, none⟩)) => hK v W ⟨pv_upd hI.pv h, hI.st⟩)
     clear hK hI hn hcl hi
     go_simp
     exact HK.out _ rfl
    ·have r4 : vs 4 = _ := hI.pv 4 (hn 4 rfl)
     rw [if_pos (by simp [Region.wanted])]
     simp only [r4] at hK |-
     have HK := Lib.hid (fun (v : Value) (h : v = .pointer (some ⟨g, 0, none⟩)) => hK v W ⟨pv_upd hI.pv h, hI.st⟩)
     clear hK hI hn hcl hi
     go_simp
     exact HK.out _ rfl
    ·have r5 : vs 5 = _ := hI.pv 5 (hn 5 rfl)
     rw [if_pos (by simp [Region.wanted])]
     simp only [r5] at hK |-
     have HK := Lib.hid (fun (v : Value) (h : v = .pointer (some ⟨g, 0, none⟩)) => hK v W ⟨pv_upd hI.pv h, hI.st⟩)
     clear hK hI hn hcl hi
     go_simp
     exact HK.out _ rfl
    ·have r6 : vs 6 = _ := hI.pv 6 (hn 6 rfl)
     rw [if_pos (by simp [Region.wanted])]
     simp only [r6] at hK |-
     have HK := Lib.hid (fun (v : Value) (h : v = .pointer (some ⟨g, 1, none⟩)) => hK v W ⟨pv_upd hI.pv h, hI.st⟩)
     clear hK hI hn hcl hi
     go_simp
     exact HK.out _ rfl
    ·have r7 : vs 7 = _ := hI.pv 7 (hn 7 rfl)
     rw [if_pos (by simp [Region.wanted])]
     have hS := hI.st
     have b1 := hS.2.1.acc
     rw [<- HAC.out] at b1
     simp only [r7] at hK |-
     have HK := Lib.hid (fun (v : Value) (h : v = .int .i64 ac) => hK v W ⟨pv_upd hI.pv h, hI.st⟩)
     clear hK hI hn hcl hi
     go_simp
     exact HK.out _ rfl
    ·have r0 : vs 0 = _ := hI.pv 0 (hn 0 rfl)
     rw [if_pos (by simp [Region.wanted])]
     simp only [r0] at hK |-
     have HK := Lib.hid (fun (v : Value) (h : v = .pointer (some ⟨g, 0, none⟩)) => hK v W ⟨pv_upd hI.pv h, hI.st⟩)
     clear hK hI hn hcl hi
     go_simp
     exact HK.out _ rfl
    ·have r9 : vs 9 = _ := hI.pv 9 (hn 9 rfl)
     rw [if_pos (by simp [Region.wanted])]
     simp only [r9] at hK |-
     have HK := Lib.hid (fun (v : Value) (h : v = .pointer (some ⟨g, 21, none⟩)) => hK v W ⟨pv_upd hI.pv h, hI.st⟩)
     clear hK hI hn hcl hi
     go_simp
     exact HK.out _ rfl
    ·have r10 : vs 10 = _ := hI.pv 10 (hn 10 rfl)
     rw [if_pos (by simp [Region.wanted])]
     simp only [r10] at hK |-
     have HK := Lib.hid (fun (v : Value) (h : v = .pointer (some ⟨g, 22, none⟩)) => hK v W ⟨pv_upd hI.pv h, hI.st⟩)
     clear hK hI hn hcl hi
     go_simp
     exact HK.out _ rfl
    ·have r11 : vs 11 = _ := hI.pv 11 (hn 11 rfl)
     have r3 : vs 3 = _ := hI.pv 3 (hn 3 rfl)
     rw [if_pos (by simp [Region.wanted])]
     simp only [r11, r3] at hK |-
     obtain ⟨h1, h2, h3⟩ := hI.st
     have x0 := h2.tl (t := 4) rfl
     have fz := thaw h2.blk 22
     have h4 := h2.setTl (inw' := inw) (outs' := outs) (gv' := gv) (t := 4) (u := .int .i64 (j : Int)) (f' := outE j ac (updB L 12 12) (updB L 12 16)) (by simp [stTail, outE, updB, vi, hi])
     have HN := Lib.hid (show WInv (OutV g B j ac) (fun L W => OutT w g B j ac v inw outs gv L W) (updB L 12) (upd vs 12 undef) (W.setCell ⟨g, 22, none⟩ (.int .i64 (j : Int))) from ⟨pv_upd hI.pv trivial, ⟨grown_trans h1 (set_grown _ _ _ _), h4, (cell_ne_set h3 HNE.out)⟩⟩)
     have HK := Lib.hid hK
     clear hK hI hn hcl hi h1 h2 h3 h4
     go_simp
     exact HK.out _ _ HN.out
    ·have r1 : vs 1 = _ := hI.pv 1 (hn 1 rfl)
     rw [if_pos (by simp [Region.wanted])]
     simp only [r1] at hK |-
     have HK := Lib.hid (fun (v : Value) (h : v = .pointer (some ⟨g, 0, none⟩)) => hK v W ⟨pv_upd hI.pv h, hI.st⟩)
     clear hK hI hn hcl hi
     go_simp
     exact HK.out _ rfl
    ·have r13 : vs 13 = _ := hI.pv 13 (hn 13 rfl)
     rw [if_pos (by simp [Region.wanted])]
     simp only [r13] at hK |-
     have HK := Lib.hid (fun (v : Value) (h : v = .pointer (some ⟨g, 21, none⟩)) => hK v W ⟨pv_upd hI.pv h, hI.st⟩)
     clear hK hI hn hcl hi
     go_simp
     exact HK.out _ rfl
    ·have r14 : vs 14 = _ := hI.pv 14 (hn 14 rfl)
     rw [if_pos (by simp [Region.wanted])]
     simp only [r14] at hK |-
     have HK := Lib.hid (fun (v : Value) (h : v = .pointer (some ⟨g, 24, none⟩)) => hK v W ⟨pv_upd hI.pv h, hI.st⟩)
     clear hK hI hn hcl hi
     go_simp
     exact HK.out _ rfl
    ·have r15 : vs 15 = _ := hI.pv 15 (hn 15 rfl)
     have r8 : vs 8 = _ := hI.pv 8 (hn 8 rfl)
     rw [if_pos (by simp [Region.wanted])]
     simp only [r15, r8] at hK |-
     obtain ⟨h1, h2, h3⟩ := hI.st
     have x0 := h2.tl (t := 6) rfl
     have fz := thaw h2.blk 24
     have h4 := h2.setTl (inw' := inw) (outs' := outs) (gv' := gv) (t := 6) (u := .int .i64 ac) (f' := outE j ac (updB L 16 12) (updB L 16 16)) (by simp [stTail, outE, updB, vi, hi])
     have HN := Lib.hid (show WInv (OutV g B j ac) (fun L W => OutT w g B j ac v inw outs gv L W) (updB L 16) (upd vs 16 undef) (W.setCell ⟨g, 24, none⟩ (.int .i64 ac)) from ⟨pv_upd hI.pv trivial, ⟨grown_trans h1 (set_grown _ _ _ _), h4, (cell_ne_set h3 HNE.out)⟩⟩)
     have HK := Lib.hid hK
     clear hK hI hn hcl hi h1 h2 h3 h4
     go_simp
     exact HK.out _ _ HN.out
   ·intro vs W hI
    simp only [List.map, putAll, Act.put, List.setIfInBounds_toArray, List.set_cons_succ, List.set_cons_zero, Nat.reduceAdd]
    have hS := hI.st
    have r0 : vs 0 = _ := hI.pv 0 (by simp)
    have r1 : vs 1 = _ := hI.pv 1 (by simp)
    have r2 : vs 2 = _ := hI.pv 2 (by simp)
    have r3 : vs 3 = _ := hI.pv 3 (by simp)
    have r4 : vs 4 = _ := hI.pv 4 (by simp)
    have r5 : vs 5 = _ := hI.pv 5 (by simp)
    have r6 : vs 6 = _ := hI.pv 6 (by simp)
    have r7 : vs 7 = _ := hI.pv 7 (by simp)
    have r8 : vs 8 = _ := hI.pv 8 (by simp)
    have r9 : vs 9 = _ := hI.pv 9 (by simp)
    have r10 : vs 10 = _ := hI.pv 10 (by simp)
    have r11 : vs 11 = _ := hI.pv 11 (by simp)
    have r13 : vs 13 = _ := hI.pv 13 (by simp)
    have r14 : vs 14 = _ := hI.pv 14 (by simp)
    have r15 : vs 15 = _ := hI.pv 15 (by simp)
    simp only [r0, r1, r2, r3, r4, r5, r6, r7, r8, r9, r10, r11, r13, r14, r15]
    clear hI r0 r1 r2 r3 r4 r5 r6 r7 r8 r9 r10 r11 r13 r14 r15
    obtain ⟨h1, h2, -⟩ := hS
    have H1 := Lib.hid h1
    have H2 := Lib.hid h2
    clear h1 h2
    go_wp2_with fail
    go_end0
    exact ⟨rfl, H2.out, H1.out⟩
 by_cases e10 : op = 10
 ·subst e10
  obtain ⟨j, rfl⟩ : ∃ j : Nat, arg = j := ⟨arg.toNat, by have := ha (by decide) (by decide); omega⟩
  have hj : j < 8 := by have := ha (by decide) (by decide); omega
  have c1 : ¬ (j : Int) < 0 := by omega
  clear ha ho
  obtain ⟨ga, gc, rfl, -⟩ := id HV.out
  by_cases hb : gets.length <= j
  ·rw [show reach v inw outs gets ⟨10, (j : Int)⟩ = ({ v with pc := 0, acc := 0 }, { noEff with fault := true }) by simp [reach, hb, faultOf]]
   have s1 : decide ((gets.length : Int) <= (j : Int)) = true := decide_eq_true (by omega)
   have s2 : (gets.length : Int) <= (j : Int) := by omega
   clear hb
   go_wp2_with fail
   go_quiet (fail)
   go_wp2_with fail
   refine (fault_any g v inw outs _ noEff _ (by exact HH.out.keep rfl)).mono ?_
   rintro e w5 ⟨rfl, h5, g5⟩
   go_wp2_with fail
   (try simp only [Exit.inBlock, Exit.then]); refine bodyPost_ret (results_none rfl _ _ _) rfl ?_
   exact ⟨rfl, h5, grown_trans (grown_trans HB.out (below_grown (below_drewN (Below.refl _ _) _) _)) g5⟩
  ·obtain ⟨b, off, cap, e, hx⟩ := HV.out.get (show j < gets.length by omega)
   injection e with e1 _ e3
   subst e1
   subst e3
   unfold IntAt at hx
   obtain ⟨y, hy⟩ : ∃ y, y = gets[j]'(by omega) := ⟨_, rfl⟩
   rw [<- hy] at hx
   have s1 : ¬ (gets.length : Int) <= (j : Int) := by omega
   have s2 : (j : Int) < (gets.length : Int) := by omega
   have s3 : j < gets.length := by omega
   have hd : gets.getD j (-1) = y /\ gets.getD j 0 = y := by rw [hy]; simp [List.getD_eq_getElem?_getD, s3]
   by_cases hm : y = -1
   ·rw [show reach v inw outs gets ⟨10, (j : Int)⟩ = ({ v with pc := 0, acc := 0 }, { noEff with fault := true }) by unfold reach; simp only [Int.toNat_natCast]; rw [hd.1]; simp [hm, faultOf]]
    clear hd hy hb
    subst hm
    go_wp2_with fail
    go_quiet (fail)
    go_wp2_with fail
    refine (fault_any g v inw outs _ noEff _ (by exact HH.out.keep rfl)).mono ?_
    rintro e w5 ⟨rfl, h5, g5⟩
    go_wp2_with fail
    (try simp only [Exit.inBlock, Exit.then]); refine bodyPost_ret (results_none rfl _ _ _) rfl ?_
    exact ⟨rfl, h5, grown_trans (grown_trans HB.out (below_grown (below_drewN (Below.refl _ _) _) _)) g5⟩
   ·rw [show reach v inw outs gets ⟨10, (j : Int)⟩ = ({ v with acc := y }, { noEff with get := j }) by unfold reach; simp only [Int.toNat_natCast]; rw [hd.1, hd.2]; simp [hm, s1]]
    clear hd hy hb
    have s4 : (y == -1) = false := beq_eq_false_iff_ne.2 hm
    have HX := Lib.hid hx
    clear x0 x18 x19 x21 x22 x23 x24 f21 f24 hm
    go_wp2_with fail
    go_quiet (fail)
    rename_i nq hnq
    go_wp2_with fail
    refine region_tail 13 (by kernel_rfl) (by kernel_rfl) ?_
    intro wy hy hby
    have hY := HH.out.keep (W' := wy) (by rw [hy]; rfl)
    have HY := Lib.hid hY
    have HG := Lib.hid (grown_trans HB.out (grown_trans (below_grown (below_drewN (Below.refl _ _) _) _) (below_grown hby _)))
    have z1 := (cell_of_heap hy _).trans y1
    have z2 := (cell_of_heap hy _).trans HX.out
    have x1 := hY.acc
    have x20 := hY.tl (t := 2) (u := .slice (some ⟨b, off, none⟩) gets.length gc) rfl
    have x23 := hY.tl (t := 5) (u := .int .i64 (-1)) rfl
    have f2 := thaw hY.blk 1
    have f23 := thaw hY.blk 23
    clear hY hy hby y0 y1 hx
    simp only [List.take_succ_cons, List.take_zero, List.drop_succ_cons, List.drop_zero]
    repeat still_step
    refine wpStill_nil ?_
    go_wp2_with fail
    go_end0
    exact ⟨rfl, (HY.out.setAcc y).setTl (t := 5) (u := .int .i64 j) (f' := { noEff with get := j }) rfl, grown_trans HG.out (grown_trans (set_grown _ _ _ _) (set_grown _ _ _ _))⟩
 ·rw [show reach v inw outs gets ⟨op, arg⟩ = (v, noEff) by simp [reach, e8, e9, e10]]
  clear ha ho
  go_wp2_with fail
  go_end0
  exact ⟨rfl, HH.out, HB.out⟩
end Go.Proofs.YtooeeiiiflfckaaGreat
/- package pvm: may a machine be, may what stands around it be. -/
namespace Go.Proofs.YtooeeiiiflfckaaGreat
open Go.RowKit
theorem list16 (m : List Int) (h : m.length = 16) : ∃ a0 a1 a2 a3 a4 a5 a6 a7 a8 a9 a10 a11 a12 a13 a14 a15, m = [a0, a1, a2, a3, a4, a5, a6, a7, a8, a9, a10, a11, a12, a13, a14, a15] := by
 match m, h with
 | [a0, a1, a2, a3, a4, a5, a6, a7, a8, a9, a10, a11, a12, a13, a14, a15], _ => exact ⟨_, _, _, _, _, _, _, _, _, _, _, _, _, _, _, _, rfl⟩
theorem ix16 (a0 a1 a2 a3 a4 a5 a6 a7 a8 a9 a10 a11 a12 a13 a14 a15 : Int) (W : World) : Sem.run Tryz.prog (Instr.index 67 (.agg #[.int .i64 a0, .int .i64 a1, .int .i64 a2, .int .i64 a3, .int .i64 a4, .int .i64 a5, .int .i64 a6, .int .i64 a7, .int .i64 a8, .int .i64 a9, .int .i64 a10, .int .i64 a11, .int .i64 a12, .int .i64 a13, .int .i64 a14, .int .i64 a15]) (.int .i64 0)) W = .ok (.int .i64 a0) W /\ Sem.run Tryz.prog (Instr.index 67 (.agg #[.int .i64 a0, .int .i64 a1, .int .i64 a2, .int .i64 a3, .int .i64 a4, .int .i64 a5, .int .i64 a6, .int .i64 a7, .int .i64 a8, .int .i64 a9, .int .i64 a10, .int .i64 a11, .int .i64 a12, .int .i64 a13, .int .i64 a14, .int .i64 a15]) (.int .i64 1)) W = .ok (.int .i64 a1) W /\ Sem.run Tryz.prog (Instr.index 67 (.agg #[.int .i64 a0, .int .i64 a1, .int .i64 a2, .int .i64 a3, .int .i64 a4, .int .i64 a5, .int .i64 a6, .int .i64 a7, .int .i64 a8, .int .i64 a9, .int .i64 a10, .int .i64 a11, .int .i64 a12, .int .i64 a13, .int .i64 a14, .int .i64 a15]) (.int .i64 2)) W = .ok (.int .i64 a2) W /\ Sem.run Tryz.prog (Instr.index 67 (.agg #[.int .i64 a0, .int .i64 a1, .int .i64 a2, .int .i64 a3, .int .i64 a4, .int .i64 a5, .int .i64 a6, .int .i64 a7, .int .i64 a8, .int .i64 a9, .int .i64 a10, .int .i64 a11, .int .i64 a12, .int .i64 a13, .int .i64 a14, .int .i64 a15]) (.int .i64 3)) W = .ok (.int .i64 a3) W /\ Sem.run Tryz.prog (Instr.index 67 (.agg #[.int .i64 a0, .int .i64 a1, .int .i64 a2, .int .i64 a3, .int .i64 a4, .int .i64 a5, .int .i64 a6, .int .i64 a7, .int .i64 a8, .int .i64 a9, .int .i64 a10, .int .i64 a11, .int .i64 a12, .int .i64 a13, .int .i64 a14, .int .i64 a15]) (.int .i64 4)) W = .ok (.int .i64 a4) W /\ Sem.run Tryz.prog (Instr.index 67 (.agg #[.int .i64 a0, .int .i64 a1, .int .i64 a2, .int .i64 a3, .int .i64 a4, .int .i64 a5, .int .i64 a6, .int .i64 a7, .int .i64 a8, .int .i64 a9, .int .i64 a10, .int .i64 a11, .int .i64 a12, .int .i64 a13, .int .i64 a14, .int .i64 a15]) (.int .i64 5)) W = .ok (.int .i64 a5) W /\ Sem.run Tryz.prog (Instr.index 67 (.agg #[.int .i64 a0, .int .i64 a1, .int .i64 a2, .int .i64 a3, .int .i64 a4, .int .i64 a5, .int .i64 a6, .int .i64 a7, .int .i64 a8, .int .i64 a9, .int .i64 a10, .int .i64 a11, .int .i64 a12, .int .i64 a13, .int .i64 a14, .int .i64 a15]) (.int .i64 6)) W = .ok (.int .i64 a6) W /\ Sem.run Tryz.prog (Instr.index 67 (.agg #[.int .i64 a0, .int .i64 a1, .int .i64 a2, .int .i64 a3, .int .i64 a4, .int .i64 a5, .int .i64 a6, .int .i64 a7, .int .i64 a8, .int .i64 a9, .int .i64 a10, .int .i64 a11, .int .i64 a12, .int .i64 a13, .int .i64 a14, .int .i64 a15]) (.int .i64 7)) W = .ok (.int .i64 a7) W /\ Sem.run Tryz.prog (Instr.index 67 (.agg #[.int .i64 a0, .int .i64 a1, .int .i64 a2, .int .i64 a3, .int .i64 a4, .int .i64 a5, .int .i64 a6, .int .i64 a7, .int .i64 a8, .int .i64 a9, .int .i64 a10, .int .i64 a11, .int .i64 a12, .int .i64 a13, .int .i64 a14, .int .i64 a15]) (.int .i64 8)) W = .ok (.int .i64 a8) W /\ Sem.run Tryz.prog (Instr.index 67 (.agg #[.int .i64 a0, .int .i64 a1, .int .i64 a2, .int .i64 a3, .int .i64 a4, .int .i64 a5, .int .i64 a6, .int .i64 a7, .int .i64 a8, .int .i64 a9, .int .i64 a10, .int .i64 a11, .int .i64 a12, .int .i64 a13, .int .i64 a14, .int .i64 a15]) (.int .i64 9)) W = .ok (.int .i64 a9) W /\ Sem.run Tryz.prog (Instr.index 67 (.agg #[.int .i64 a0, .int .i64 a1, .int .i64 a2, .int .i64 a3, .int .i64 a4, .int .i64 a5, .int .i64 a6, .int .i64 a7, .int .i64 a8, .int .i64 a9, .int .i64 a10, .int .i64 a11, .int .i64 a12, .int .i64 a13, .int .i64 a14, .int .i64 a15]) (.int .i64 10)) W = .ok (.int .i64 a10) W /\ Sem.run Tryz.prog (Instr.index 67 (.agg #[.int .i64 a0, .int .i64 a1, .int .i64 a2, .int .i64 a3, .int .i64 a4, .int .i64 a5, .int .i64 a6, .int .i64 a7, .int .i64 a8, .int .i64 a9, .int .i64 a10, .int .i64 a11, .int .i64 a12, .int .i64 a13, .int .i64 a14, .int .i64 a15]) (.int .i64 11)) W = .ok (.int .i64 a11) W /\ Sem.run Tryz.prog (Instr.index 67 (.agg #[.int .i64 a0, .int .i64 a1, .int .i64 a2, .int .i64 a3, .int .i64 a4, .int .i64 a5, .int .i64 a6, .int .i64 a7, .int .i64 a8, .int .i64 a9, .int .i64 a10, .int .i64 a11, .int .i64 a12, .int .i64 a13, .int .i64 a14, .int .i64 a15]) (.int .i64 12)) W = .ok (.int .i64 a12) W /\ Sem.run Tryz.prog (Instr.index 67 (.agg #[.int .i64 a0, .int .i64 a1, .int .i64 a2, .int .i64 a3, .int .i64 a4, .int .i64 a5, .int .i64 a6, .int .i64 a7, .int .i64 a8, .int .i64 a9, .int .i64 a10, .int .i64 a11, .int .i64 a12, .int .i64 a13, .int .i64 a14, .int .i64 a15]) (.int .i64 13)) W = .ok (.int .i64 a13) W /\ Sem.run Tryz.prog (Instr.index 67 (.agg #[.int .i64 a0, .int .i64 a1, .int .i64 a2, .int .i64 a3, .int .i64 a4, .int .i64 a5, .int .i64 a6, .int .i64 a7, .int .i64 a8, .int .i64 a9, .int .i64 a10, .int .i64 a11, .int .i64 a12, .int .i64 a13, .int .i64 a14, .int .i64 a15]) (.int .i64 14)) W = .ok (.int .i64 a14) W /\ Sem.run Tryz.prog (Instr.index 67 (.agg #[.int .i64 a0, .int .i64 a1, .int .i64 a2, .int .i64 a3, .int .i64 a4, .int .i64 a5, .int .i64 a6, .int .i64 a7, .int .i64 a8, .int .i64 a9, .int .i64 a10, .int .i64 a11, .int .i64 a12, .int .i64 a13, .int .i64 a14, .int .i64 a15]) (.int .i64 15)) W = .ok (.int .i64 a15) W :=
 ⟨by kernel_rfl, by kernel_rfl, by kernel_rfl, by kernel_rfl, by kernel_rfl, by kernel_rfl, by kernel_rfl, by kernel_rfl, by kernel_rfl, by kernel_rfl, by kernel_rfl, by kernel_rfl, by kernel_rfl, by kernel_rfl, by kernel_rfl, by kernel_rfl⟩
theorem index16 (m : List Int) (h : m.length = 16) (k : Nat) (hk : k < 16) (W : World) : Sem.run Tryz.prog (Instr.index 67 (.agg (m.map vi).toArray) (.int .i64 (k : Int))) W = .ok (.int .i64 (m.getD k 0)) W := by
 obtain ⟨a0, a1, a2, a3, a4, a5, a6, a7, a8, a9, a10, a11, a12, a13, a14, a15, rfl⟩ := list16 m h
 have H := ix16 a0 a1 a2 a3 a4 a5 a6 a7 a8 a9 a10 a11 a12 a13 a14 a15 W
 have : k = 0 ∨ k = 1 ∨ k = 2 ∨ k = 3 ∨ k = 4 ∨ k = 5 ∨ k = 6 ∨ k = 7 ∨ k = 8 ∨ k = 9 ∨ k = 10 ∨ k = 11 ∨ k = 12 ∨ k = 13 ∨ k = 14 ∨ k = 15 := by omega
 rcases this with rfl | rfl | rfl | rfl | rfl | rfl | rfl | rfl | rfl | rfl | rfl | rfl | rfl | rfl | rfl | rfl
 ·exact H.1
 ·exact H.2.1
 ·exact H.2.2.1
 ·exact H.2.2.2.1
 ·exact H.2.2.2.2.1
 ·exact H.2.2.2.2.2.1
 ·exact H.2.2.2.2.2.2.1
 ·exact H.2.2.2.2.2.2.2.1
 ·exact H.2.2.2.2.2.2.2.2.1
 ·exact H.2.2.2.2.2.2.2.2.2.1
 ·exact H.2.2.2.2.2.2.2.2.2.2.1
 ·exact H.2.2.2.2.2.2.2.2.2.2.2.1
 ·exact H.2.2.2.2.2.2.2.2.2.2.2.2.1
 ·exact H.2.2.2.2.2.2.2.2.2.2.2.2.2.1
 ·exact H.2.2.2.2.2.2.2.2.2.2.2.2.2.2.1
 ·exact H.2.2.2.2.2.2.2.2.2.2.2.2.2.2.2
theorem word_step (m : List Int) (k : Nat) (h : k < m.length) : (m.drop k).all word = (word m[k] && (m.drop (k + 1)).all word) := by
 rw [List.drop_eq_getElem_cons h, List.all_cons]
def vmCells (v : Vm) : List Value := vi v.pc :: vi v.acc :: v.mem.map vi
set_option maxRecDepth 100000 in
set_option maxHeartbeats 4000000 in
theorem vmMay_any (g : Nat) (v : Vm) (p : List Instr) (pa : Option Addr) (n pc : Nat) (t : TypeId) (w : World) (hl : v.mem.length = 16) (hb : w.heap[g]? = some (.cells (vmCells v).toArray t (0, 0))) (hn : n = p.length) (hp : n <= 64) :
  Calls Tryz.prog 111 #[.slice pa n pc, .pointer (some ⟨g, 0, none⟩)] w fun e w' => e = .returned (.bool (vmMay p v)) /\ w' = w := by
 obtain ⟨pcx, acc, mem⟩ := v
 simp only at hl
 have HX := Lib.hid (fun k hk => index16 mem hl k hk)
 obtain ⟨a0, a1, a2, a3, a4, a5, a6, a7, a8, a9, a10, a11, a12, a13, a14, a15, hm⟩ := list16 mem hl
 subst hm
 have x0 := BlockIs.of hb 0 (.int .i64 pcx) rfl
 have x1 := BlockIs.of hb 1 (.int .i64 acc) rfl
 have HRG : Hid (w.rangeAt g 2 [.int .i64 a0, .int .i64 a1, .int .i64 a2, .int .i64 a3, .int .i64 a4, .int .i64 a5, .int .i64 a6, .int .i64 a7, .int .i64 a8, .int .i64 a9, .int .i64 a10, .int .i64 a11, .int .i64 a12, .int .i64 a13, .int .i64 a14, .int .i64 a15]) := Lib.hid (World.rangeAt_of_block hb 2 16)
 go_enter Tryz.func111, Tryz.ntmps111
 clear hb hl
 obtain ⟨mx, hmx, hmx2⟩ : ∃ mx : Nat, mx = max p.length 1 /\ ((n < 1 /\ mx = 1) ∨ (¬ n < 1 /\ mx = n)) := ⟨_, rfl, by omega⟩
 have HR : Hid (vmMay p ⟨pcx, acc, [a0, a1, a2, a3, a4, a5, a6, a7, a8, a9, a10, a11, a12, a13, a14, a15]⟩ = (decide (0 <= pcx /\ pcx < (mx : Int)) && word acc && [a0, a1, a2, a3, a4, a5, a6, a7, a8, a9, a10, a11, a12, a13, a14, a15].all word)) := Lib.hid (by rw [hmx]; rfl)
 clear hmx
 by_cases h1 : pcx < 0
 ·have d1 : decide (pcx < 0) = true := decide_eq_true h1
  have HR : Hid (vmMay p ⟨pcx, acc, [a0, a1, a2, a3, a4, a5, a6, a7, a8, a9, a10, a11, a12, a13, a14, a15]⟩ = false) := Lib.hid (by rw [HR.out]; simp; omega)
  clear h1
  go_wp2_with fail
  go_ret
  exact ⟨ret_bool HR.out.symm, rfl⟩
 ·have d1 : decide (pcx < 0) = false := decide_eq_false h1
  have HN := Lib.hid h1
  have HP := Lib.hid hp
  have HV := Lib.hid hn
  clear hn hp
  rcases hmx2 with ⟨hn1, rfl⟩ | ⟨hn1, rfl⟩
  ·have d2 : ((n : Int) < 1) := by omega
   clear hn1
   by_cases h2 : pcx < 1
   ·have d3 : decide (pcx >= 1) = false := decide_eq_false (by omega)
    have HR : Hid (vmMay p ⟨pcx, acc, [a0, a1, a2, a3, a4, a5, a6, a7, a8, a9, a10, a11, a12, a13, a14, a15]⟩ = (word acc && [a0, a1, a2, a3, a4, a5, a6, a7, a8, a9, a10, a11, a12, a13, a14, a15].all word)) := Lib.hid (by rw [HR.out, decide_eq_true ⟨by omega, by omega⟩]; rfl)
    clear h1 h2
    go_wp2_with fail
    refine (wordMay_any acc _).mono ?_
    rintro e w' ⟨rfl, hww⟩
    subst w'
    by_cases hw1 : word acc = true
    ·have d4 : decide (0 <= acc /\ acc < 4294967296) = true := hw1
     have HR : Hid (vmMay p ⟨pcx, acc, [a0, a1, a2, a3, a4, a5, a6, a7, a8, a9, a10, a11, a12, a13, a14, a15]⟩ = [a0, a1, a2, a3, a4, a5, a6, a7, a8, a9, a10, a11, a12, a13, a14, a15].all word) := Lib.hid (by rw [HR.out, hw1]; rfl)
     rw [d4]
     clear hw1 d4
     go_wp2_with (first | (refine wpList_load_mid rfl 67 _ rfl g 2 rfl [.int .i64 a0, .int .i64 a1, .int .i64 a2, .int .i64 a3, .int .i64 a4, .int .i64 a5, .int .i64 a6, .int .i64 a7, .int .i64 a8, .int .i64 a9, .int .i64 a10, .int .i64 a11, .int .i64 a12, .int .i64 a13, .int .i64 a14, .int .i64 a15] _ HRG.out Tryz.underlying67 rfl (by kernel_rfl) ?_) | fail)
     go_loopw [6, 34] (fun _ i wr => ∃ (k : Nat), k <= 16 /\ i = .int .i64 k /\ wr = w /\ Hid ([a0, a1, a2, a3, a4, a5, a6, a7, a8, a9, a10, a11, a12, a13, a14, a15].all word = ([a0, a1, a2, a3, a4, a5, a6, a7, a8, a9, a10, a11, a12, a13, a14, a15].drop k).all word)) (fun _ i _ => 16 - (intOf i).toNat)
     case atStart => exact ⟨0, by omega, rfl, rfl, Lib.hid rfl⟩
     case round =>
      obtain ⟨k, hk, rfl, rfl, HD⟩ := hrel
      by_cases hlt : k < 16
      ·have hix := HX.out k hlt wr
       have hst := word_step [a0, a1, a2, a3, a4, a5, a6, a7, a8, a9, a10, a11, a12, a13, a14, a15] k hlt
       have hge : ([a0, a1, a2, a3, a4, a5, a6, a7, a8, a9, a10, a11, a12, a13, a14, a15].getD k 0) = [a0, a1, a2, a3, a4, a5, a6, a7, a8, a9, a10, a11, a12, a13, a14, a15][k] := by rw [List.getD_eq_getElem?_getD, List.getElem?_eq_getElem hlt]; rfl
       rw [<- hge, <- HD.out] at hst
       have HS := Lib.hid hst
       clear hst hge HD
       obtain ⟨mk, hmk⟩ : ∃ mk, mk = [a0, a1, a2, a3, a4, a5, a6, a7, a8, a9, a10, a11, a12, a13, a14, a15].getD k 0 := ⟨_, rfl⟩
       rw [<- hmk] at hix HS
       rw [show ([a0, a1, a2, a3, a4, a5, a6, a7, a8, a9, a10, a11, a12, a13, a14, a15].map vi).toArray = #[.int .i64 a0, .int .i64 a1, .int .i64 a2, .int .i64 a3, .int .i64 a4, .int .i64 a5, .int .i64 a6, .int .i64 a7, .int .i64 a8, .int .i64 a9, .int .i64 a10, .int .i64 a11, .int .i64 a12, .int .i64 a13, .int .i64 a14, .int .i64 a15] from rfl] at hix
       clear hmk
       go_wp2_with fail
       refine (wordMay_any mk _).mono ?_
       rintro e w' ⟨rfl, hww⟩
       subst w'
       by_cases hw1 : word mk = true
       ·have d4 : decide (0 <= mk /\ mk < 4294967296) = true := hw1
        have HE := Lib.hid (HS.out.trans (by rw [hw1, Bool.true_and]))
        rw [d4]
        clear hw1 d4 HS
        go_wp2_with fail
        go_roundw
        case rel => exact ⟨k + 1, by omega, by go_num, trivial, HE⟩
        case measure => simp [intOf]; omega
       ·have d4 : decide (0 <= mk /\ mk < 4294967296) = false := by simpa [word] using hw1
        have HE := Lib.hid (HR.out.trans (HS.out.trans (by rw [(by simpa using hw1 : word mk = false), Bool.false_and])))
        rw [d4]
        clear hw1 d4 HS
        go_wp2_with fail
        go_ret
        exact ⟨ret_bool HE.out.symm, rfl⟩
      ·obtain rfl : k = 16 := by omega
       have HE := Lib.hid (HR.out.trans HD.out)
       clear HD
       go_wp2_with fail
       go_ret
       exact ⟨ret_bool HE.out.symm, rfl⟩
    ·have d4 : decide (0 <= acc /\ acc < 4294967296) = false := by simpa [word] using hw1
     have HR : Hid (vmMay p ⟨pcx, acc, [a0, a1, a2, a3, a4, a5, a6, a7, a8, a9, a10, a11, a12, a13, a14, a15]⟩ = false) := Lib.hid (by rw [HR.out, (by simpa using hw1 : word acc = false)]; rfl)
     rw [d4]
     clear hw1 d4
     go_wp2_with fail
     go_ret
     exact ⟨ret_bool HR.out.symm, rfl⟩
   ·have d3 : decide (pcx >= 1) = true := decide_eq_true (by omega)
    have HR : Hid (vmMay p ⟨pcx, acc, [a0, a1, a2, a3, a4, a5, a6, a7, a8, a9, a10, a11, a12, a13, a14, a15]⟩ = false) := Lib.hid (by rw [HR.out, decide_eq_false (by omega)]; rfl)
    clear h1 h2
    go_wp2_with fail
    go_ret
    exact ⟨ret_bool HR.out.symm, rfl⟩
  ·have d2 : ¬ ((mx : Int) < 1) := by omega
   clear hn1
   by_cases h2 : pcx < (mx : Int)
   ·have d3 : decide (pcx >= (mx : Int)) = false := decide_eq_false (by omega)
    have HR : Hid (vmMay p ⟨pcx, acc, [a0, a1, a2, a3, a4, a5, a6, a7, a8, a9, a10, a11, a12, a13, a14, a15]⟩ = (word acc && [a0, a1, a2, a3, a4, a5, a6, a7, a8, a9, a10, a11, a12, a13, a14, a15].all word)) := Lib.hid (by rw [HR.out, decide_eq_true ⟨by omega, by omega⟩]; rfl)
    clear h1 h2
    go_wp2_with fail
    refine (wordMay_any acc _).mono ?_
    rintro e w' ⟨rfl, hww⟩
    subst w'
    by_cases hw1 : word acc = true
    ·have d4 : decide (0 <= acc /\ acc < 4294967296) = true := hw1
     have HR : Hid (vmMay p ⟨pcx, acc, [a0, a1, a2, a3, a4, a5, a6, a7, a8, a9, a10, a11, a12, a13, a14, a15]⟩ = [a0, a1, a2, a3, a4, a5, a6, a7, a8, a9, a10, a11, a12, a13, a14, a15].all word) := Lib.hid (by rw [HR.out, hw1]; rfl)
     rw [d4]
     clear hw1 d4
     go_wp2_with (first | (refine wpList_load_mid rfl 67 _ rfl g 2 rfl [.int .i64 a0, .int .i64 a1, .int .i64 a2, .int .i64 a3, .int .i64 a4, .int .i64 a5, .int .i64 a6, .int .i64 a7, .int .i64 a8, .int .i64 a9, .int .i64 a10, .int .i64 a11, .int .i64 a12, .int .i64 a13, .int .i64 a14, .int .i64 a15] _ HRG.out Tryz.underlying67 rfl (by kernel_rfl) ?_) | fail)
     go_loopw [6, 34] (fun _ i wr => ∃ (k : Nat), k <= 16 /\ i = .int .i64 k /\ wr = w /\ Hid ([a0, a1, a2, a3, a4, a5, a6, a7, a8, a9, a10, a11, a12, a13, a14, a15].all word = ([a0, a1, a2, a3, a4, a5, a6, a7, a8, a9, a10, a11, a12, a13, a14, a15].drop k).all word)) (fun _ i _ => 16 - (intOf i).toNat)
     case atStart => exact ⟨0, by omega, rfl, rfl, Lib.hid rfl⟩
     case round =>
      obtain ⟨k, hk, rfl, rfl, HD⟩ := hrel
      by_cases hlt : k < 16
      ·have hix := HX.out k hlt wr
       have hst := word_step [a0, a1, a2, a3, a4, a5, a6, a7, a8, a9, a10, a11, a12, a13, a14, a15] k hlt
       have hge : ([a0, a1, a2, a3, a4, a5, a6, a7, a8, a9, a10, a11, a12, a13, a14, a15].getD k 0) = [a0, a1, a2, a3, a4, a5, a6, a7, a8, a9, a10, a11, a12, a13, a14, a15][k] := by rw [List.getD_eq_getElem?_getD, List.getElem?_eq_getElem hlt]; rfl
       rw [<- hge, <- HD.out] at hst
       have HS := Lib.hid hst
       clear hst hge HD
       obtain ⟨mk, hmk⟩ : ∃ mk, mk = [a0, a1, a2, a3, a4, a5, a6, a7, a8, a9, a10, a11, a12, a13, a14, a15].getD k 0 := ⟨_, rfl⟩
       rw [<- hmk] at hix HS
       rw [show ([a0, a1, a2, a3, a4, a5, a6, a7, a8, a9, a10, a11, a12, a13, a14, a15].map vi).toArray = #[.int .i64 a0, .int .i64 a1, .int .i64 a2, .int .i64 a3, .int .i64 a4, .int .i64 a5, .int .i64 a6, .int .i64 a7, .int .i64 a8, .int .i64 a9, .int .i64 a10, .int .i64 a11, .int .i64 a12, .int .i64 a13, .int .i64 a14, .int .i64 a15] from rfl] at hix
       clear hmk
       go_wp2_with fail
       refine (wordMay_any mk _).mono ?_
       rintro e w' ⟨rfl, hww⟩
       subst w'
       by_cases hw1 : word mk = true
       ·have d4 : decide (0 <= mk /\ mk < 4294967296) = true := hw1
        have HE := Lib.hid (HS.out.trans (by rw [hw1, Bool.true_and]))
        rw [d4]
        clear hw1 d4 HS
        go_wp2_with fail
        go_roundw
        case rel => exact ⟨k + 1, by omega, by go_num, trivial, HE⟩
        case measure => simp [intOf]; omega
       ·have d4 : decide (0 <= mk /\ mk < 4294967296) = false := by simpa [word] using hw1
        have HE := Lib.hid (HR.out.trans (HS.out.trans (by rw [(by simpa using hw1 : word mk = false), Bool.false_and])))
        rw [d4]
        clear hw1 d4 HS
        go_wp2_with fail
        go_ret
        exact ⟨ret_bool HE.out.symm, rfl⟩
      ·obtain rfl : k = 16 := by omega
       have HE := Lib.hid (HR.out.trans HD.out)
       clear HD
       go_wp2_with fail
       go_ret
       exact ⟨ret_bool HE.out.symm, rfl⟩
    ·have d4 : decide (0 <= acc /\ acc < 4294967296) = false := by simpa [word] using hw1
     have HR : Hid (vmMay p ⟨pcx, acc, [a0, a1, a2, a3, a4, a5, a6, a7, a8, a9, a10, a11, a12, a13, a14, a15]⟩ = false) := Lib.hid (by rw [HR.out, (by simpa using hw1 : word acc = false)]; rfl)
     rw [d4]
     clear hw1 d4
     go_wp2_with fail
     go_ret
     exact ⟨ret_bool HR.out.symm, rfl⟩
   ·have d3 : decide (pcx >= (mx : Int)) = true := decide_eq_true (by omega)
    have HR : Hid (vmMay p ⟨pcx, acc, [a0, a1, a2, a3, a4, a5, a6, a7, a8, a9, a10, a11, a12, a13, a14, a15]⟩ = false) := Lib.hid (by rw [HR.out, decide_eq_false (by omega)]; rfl)
    clear h1 h2
    go_wp2_with fail
    go_ret
    exact ⟨ret_bool HR.out.symm, rfl⟩
theorem get_step (m : List Int) (k : Nat) (h : k < m.length) : (m.drop k).all (fun x => decide (x = -1) || word x) = ((decide (m[k] = -1) || word m[k]) && (m.drop (k + 1)).all (fun x => decide (x = -1) || word x)) := by
 rw [List.drop_eq_getElem_cons h, List.all_cons]
set_option maxRecDepth 100000 in
set_option maxHeartbeats 4000000 in
theorem aroundMay_any (g : Nat) (v : Vm) (inw outs : Int) (gv : Value) (gets : List Int) (f : Eff) (w : World) (h : StAt w g v inw outs gv f) (hg : IntsV w gv gets) :
  Calls Tryz.prog 112 #[.pointer (some ⟨g, 18, none⟩)] w fun e w' => e = .returned (.bool (aroundMay inw outs gets)) /\ w' = w := by
 obtain ⟨a, cap, rfl, hv1, hv2, hv3, hv4⟩ := hg
 have HV := Lib.hid hv4
 have hl1 : gets.length <= 1000000000000000 := by omega
 have x18 := h.tl (t := 0) (u := .int .i64 inw) rfl
 have x19 := h.tl (t := 1) (u := .int .i64 outs) rfl
 have x20 := h.tl (t := 2) (u := .slice a gets.length cap) rfl
 obtain ⟨n, hn⟩ : ∃ n, n = gets.length := ⟨_, rfl⟩
 rw [<- hn] at x20 hl1
 have HN := Lib.hid hn
 clear h hv1 hv2 hv3 hv4 hn
 go_enter Tryz.func112, Tryz.ntmps112
 go_wp2_with fail
 refine (wordMay_any inw _).mono ?_
 rintro e w' ⟨rfl, hww⟩
 subst w'
 by_cases hw1 : word inw = true
 ·have d4 : decide (0 <= inw /\ inw < 4294967296) = true := hw1
  have HR : Hid (aroundMay inw outs gets = (decide (0 <= outs /\ outs <= 255 /\ n <= 8) && gets.all (fun x => decide (x = -1) || word x))) := Lib.hid (by unfold aroundMay; rw [hw1, Bool.true_and, HN.out])
  rw [d4]
  clear hw1 d4
  by_cases h1 : outs < 0
  ·have d1 : decide (outs < 0) = true := decide_eq_true h1
   have HR : Hid (aroundMay inw outs gets = false) := Lib.hid (by rw [HR.out, decide_eq_false (by omega), Bool.false_and])
   clear h1
   go_wp2_with fail
   go_ret
   exact ⟨ret_bool HR.out.symm, rfl⟩
  have d1 : decide (outs < 0) = false := decide_eq_false h1
  by_cases h2 : outs > 255
  ·have d2 : decide (outs > 255) = true := decide_eq_true h2
   have HR : Hid (aroundMay inw outs gets = false) := Lib.hid (by rw [HR.out, decide_eq_false (by omega), Bool.false_and])
   clear h1 h2
   go_wp2_with fail
   go_ret
   exact ⟨ret_bool HR.out.symm, rfl⟩
  have d2 : decide (outs > 255) = false := decide_eq_false h2
  by_cases h3 : (n : Int) > 8
  ·have d3 : decide ((n : Int) > 8) = true := decide_eq_true h3
   have HR : Hid (aroundMay inw outs gets = false) := Lib.hid (by rw [HR.out, decide_eq_false (by omega), Bool.false_and])
   clear h1 h2 h3
   go_wp2_with fail
   go_ret
   exact ⟨ret_bool HR.out.symm, rfl⟩
  have d3 : decide ((n : Int) > 8) = false := decide_eq_false h3
  have HR : Hid (aroundMay inw outs gets = gets.all (fun x => decide (x = -1) || word x)) := Lib.hid (by rw [HR.out, decide_eq_true ⟨by omega, by omega, by omega⟩, Bool.true_and])
  clear h1 h2 h3
  go_wp2_with fail
  go_loopw [4, 38] (fun _ i wr => ∃ (k : Nat), k <= n /\ i = .int .i64 k /\ wr = w /\ Hid (gets.all (fun x => decide (x = -1) || word x) = (gets.drop k).all (fun x => decide (x = -1) || word x))) (fun _ i _ => n - (intOf i).toNat)
  case atStart => exact ⟨0, by omega, rfl, rfl, Lib.hid rfl⟩
  case round =>
   obtain ⟨k, hk, rfl, rfl, HD⟩ := hrel
   by_cases hlt : k < n
   ·have hlt' : k < gets.length := by rw [<- HN.out]; exact hlt
    obtain ⟨b, off, rfl, hcell⟩ := HV.out (by intro h; rw [h] at hlt'; simp at hlt')
    have y0 := hcell k hlt'
    unfold IntAt at y0
    rw [Nat.mul_one] at y0
    have hst := get_step gets k hlt'
    rw [<- HD.out] at hst
    obtain ⟨x, hx⟩ : ∃ x, x = gets[k] := ⟨_, rfl⟩
    rw [<- hx] at hst y0
    have HS := Lib.hid (HR.out.trans hst)
    clear hcell hst hx hlt'
    by_cases hx1 : x = -1
    ·have e1 : (x != -1) = false := by simpa using hx1
     have HE := Lib.hid (HS.out.trans (by rw [decide_eq_true hx1, Bool.true_or, Bool.true_and]))
     have HE2 := Lib.hid (HR.out.symm.trans HE.out)
     clear HS HE HD hx1
     go_wp2_with fail
     go_roundw
     case rel => exact ⟨k + 1, by omega, by go_num, trivial, HE2⟩
     case measure => simp [intOf]; omega
    ·have e1 : (x != -1) = true := by simpa using hx1
     go_wp2_with fail
     refine (wordMay_any x _).mono ?_
     rintro e w' ⟨rfl, hww⟩
     subst w'
     by_cases hw1 : word x = true
     ·have d4 : decide (0 <= x /\ x < 4294967296) = true := hw1
      have HE := Lib.hid (HS.out.trans (by rw [hw1, Bool.or_true, Bool.true_and]))
      have HE2 := Lib.hid (HR.out.symm.trans HE.out)
      rw [d4]
      clear hw1 d4 HS HE HD hx1
      go_wp2_with fail
      go_roundw
      case rel => exact ⟨k + 1, by omega, by go_num, trivial, HE2⟩
      case measure => simp [intOf]; omega
     ·have d4 : decide (0 <= x /\ x < 4294967296) = false := by simpa [word] using hw1
      have HE := Lib.hid (HS.out.trans (by rw [(by simpa using hw1 : word x = false), decide_eq_false hx1, Bool.false_or, Bool.false_and]))
      rw [d4]
      clear hw1 d4 HS HD hx1
      go_wp2_with fail
      go_ret
      exact ⟨ret_bool HE.out.symm, rfl⟩
   ·have HE := Lib.hid (HR.out.trans (HD.out.trans (by rw [List.drop_of_length_le (by rw [<- HN.out]; omega)])))
    clear HD
    go_wp2_with fail
    go_ret
    exact ⟨ret_bool HE.out.symm, rfl⟩
 ·have d4 : decide (0 <= inw /\ inw < 4294967296) = false := by simpa [word] using hw1
  have HR : Hid (aroundMay inw outs gets = false) := Lib.hid (by unfold aroundMay; rw [(by simpa using hw1 : word inw = false), Bool.false_and, Bool.false_and])
  rw [d4]
  clear hw1 d4
  go_wp2_with fail
  go_ret
  exact ⟨ret_bool HR.out.symm, rfl⟩
end Go.Proofs.YtooeeiiiflfckaaGreat
/- package pvm: Step. -/
namespace Go.Proofs.YtooeeiiiflfckaaGreat
open Go.RowKit
def vmV (v : Vm) : Value := .agg (vmCells v).toArray
def effV (f : Eff) : Value := .agg #[.bool f.took, .int .i64 f.write, .int .i64 f.get, .int .i64 f.value, .bool f.fault]
theorem setRow_grown (W : World) (g : Nat) (cs : Array Value) : W.grownBy (W.setRow g cs) (some g) := ⟨rfl, rfl, rfl, by rw [setRow_size]; exact Nat.le_refl _, fun k _ hk => setRow_other W g k cs (fun e => hk (by rw [e]))⟩
theorem results_step {tmps : Array Value} {w : World} {gb gc : Nat} {cs es : Array Value} {x : Value} (h1 : tmps[10]? = some (.pointer (some ⟨gb, 0, none⟩))) (h2 : tmps[11]? = some (.pointer (some ⟨gc, 0, none⟩))) (h3 : tmps[12]? = some x) (h4 : w.heap[gb]? = some (.cells cs 69 (0, 0))) (h5 : w.heap[gc]? = some (.cells es 180 (0, 0))) (h6 : cs.size = 18 := by rfl) (h7 : es.size = 5 := by rfl) :
  (results Tryz.f77 tmps).run Tryz.prog w = .ok (.tuple #[.agg cs, .agg es, x]) w := by
 have q1 := run_loadVar_row (P := Tryz.prog) w gb _ 69 _ _ _ h4 Tryz.underlying69 rfl (by rw [h6]; kernel_rfl)
 have q2 := run_loadVar_row (P := Tryz.prog) w gc _ 180 _ _ _ h5 Tryz.underlying180 rfl (by rw [h7]; kernel_rfl)
 simp [results, Tryz.results77, asAddr, h1, h2, h3, q1, q2]
def SpT (w : World) (gb gc gd : Nat) (pb ab b0 b1 b2 b3 b4 b5 b6 b7 b8 b9 b10 b11 b12 b13 b14 b15 : Int) (e0 : Bool) (e1 e2 e3 : Int) (e4 : Bool) (iv ov gv : Value) (x y : Bool) (W : World) : Prop :=
 Below w.heap.size w W /\ W.heap[gd]? = some (.cells #[.int .i64 pb, .int .i64 ab, .int .i64 b0, .int .i64 b1, .int .i64 b2, .int .i64 b3, .int .i64 b4, .int .i64 b5, .int .i64 b6, .int .i64 b7, .int .i64 b8, .int .i64 b9, .int .i64 b10, .int .i64 b11, .int .i64 b12, .int .i64 b13, .int .i64 b14, .int .i64 b15, iv, ov, gv, .bool e0, .int .i64 e1, .int .i64 e2, .int .i64 e3, .bool e4] 221 (0, 0)) /\ W.heap[gb]? = some (.cells (if x = true then #[.int .i64 pb, .int .i64 ab, .int .i64 b0, .int .i64 b1, .int .i64 b2, .int .i64 b3, .int .i64 b4, .int .i64 b5, .int .i64 b6, .int .i64 b7, .int .i64 b8, .int .i64 b9, .int .i64 b10, .int .i64 b11, .int .i64 b12, .int .i64 b13, .int .i64 b14, .int .i64 b15] else #[.int .i64 0, .int .i64 0, .int .i64 0, .int .i64 0, .int .i64 0, .int .i64 0, .int .i64 0, .int .i64 0, .int .i64 0, .int .i64 0, .int .i64 0, .int .i64 0, .int .i64 0, .int .i64 0, .int .i64 0, .int .i64 0, .int .i64 0, .int .i64 0]) 69 (0, 0)) /\ W.heap[gc]? = some (.cells (if y = true then #[.bool e0, .int .i64 e1, .int .i64 e2, .int .i64 e3, .bool e4] else #[.bool false, .int .i64 0, .int .i64 0, .int .i64 0, .bool false]) 180 (0, 0))
def SpV (gd : Nat) (pb ab b0 b1 b2 b3 b4 b5 b6 b7 b8 b9 b10 b11 b12 b13 b14 b15 : Int) (e0 : Bool) (e1 e2 e3 : Int) (e4 : Bool) (a : Nat) (v : Value) : Prop := match a with
 | 0 => v = .pointer (some ⟨gd, 0, none⟩)
 | 1 => v = .pointer (some ⟨gd, 0, none⟩)
 | 2 => v = .pointer (some ⟨gd, 0, none⟩)
 | 3 => v = .agg #[.int .i64 pb, .int .i64 ab, .int .i64 b0, .int .i64 b1, .int .i64 b2, .int .i64 b3, .int .i64 b4, .int .i64 b5, .int .i64 b6, .int .i64 b7, .int .i64 b8, .int .i64 b9, .int .i64 b10, .int .i64 b11, .int .i64 b12, .int .i64 b13, .int .i64 b14, .int .i64 b15]
 | 4 => v = .pointer (some ⟨gd, 0, none⟩)
 | 5 => v = .pointer (some ⟨gd, 0, none⟩)
 | 6 => v = .pointer (some ⟨gd, 21, none⟩)
 | 7 => v = .agg #[.bool e0, .int .i64 e1, .int .i64 e2, .int .i64 e3, .bool e4]
 | 10 => v = .int .i64 0
 | _ => True
set_option maxRecDepth 100000 in
set_option maxHeartbeats 8000000 in
theorem step_any (p : List Instr) (cv : Value) (v : Vm) (inw outs : Int) (gets : List Int) (gv : Value) (w : World) (hc : CodeV w cv p) (hl : v.mem.length = 16) (hg : IntsV w gv gets) :
  Calls Tryz.prog 77 #[cv, vmV v, .int .i64 inw, .int .i64 outs, gv] w fun e w' => e = .returned (.tuple #[vmV (stepV p v inw outs gets).1, effV (stepV p v inw outs gets).2.1, .int .i64 (stepV p v inw outs gets).2.2]) /\ (stepV p v inw outs gets).1.mem.length = 16 /\ Below w.heap.size w w' := by
 obtain ⟨pcx, acc, mem⟩ := v
 simp only at hl
 obtain ⟨a0, a1, a2, a3, a4, a5, a6, a7, a8, a9, a10, a11, a12, a13, a14, a15, hm⟩ := list16 mem hl
 subst hm
 obtain ⟨a, cap, rfl, hv1, hv2, hv3, hv4⟩ := id hc
 obtain ⟨qa, qc, hgv⟩ : ∃ qa qc, gv = .slice qa gets.length qc := by obtain ⟨q1, q2, e, -⟩ := hg; exact ⟨q1, q2, e⟩
 obtain ⟨m, hm⟩ : ∃ m, m = gets.length := ⟨_, rfl⟩
 rw [<- hm] at hgv
 subst hgv
 have HC := Lib.hid hc
 have HG := Lib.hid hg
 obtain ⟨R, hR⟩ : ∃ R, R = stepV p ⟨pcx, acc, [a0, a1, a2, a3, a4, a5, a6, a7, a8, a9, a10, a11, a12, a13, a14, a15]⟩ inw outs gets := ⟨_, rfl⟩
 rw [<- hR]
 have HRR := Lib.hid hR
 obtain ⟨n, hn⟩ : ∃ n, n = p.length := ⟨_, rfl⟩
 rw [<- hn]
 have HN := Lib.hid hn
 replace HC : Hid (CodeV w (.slice a n cap) p) := Lib.hid (by rw [hn]; exact HC.out)
 have HM := Lib.hid hm
 clear hm hc hg hl hv1 hv2 hv3 hv4 hR hn
 rw [show vmV ⟨pcx, acc, [a0, a1, a2, a3, a4, a5, a6, a7, a8, a9, a10, a11, a12, a13, a14, a15]⟩ = .agg #[.int .i64 pcx, .int .i64 acc, .int .i64 a0, .int .i64 a1, .int .i64 a2, .int .i64 a3, .int .i64 a4, .int .i64 a5, .int .i64 a6, .int .i64 a7, .int .i64 a8, .int .i64 a9, .int .i64 a10, .int .i64 a11, .int .i64 a12, .int .i64 a13, .int .i64 a14, .int .i64 a15] from rfl]
 obtain ⟨wa, ga, hw_wa, hg_ga, hb_wa, hk_ga, hs_wa⟩ := alloc_all w (.cells #[.int .i64 pcx, .int .i64 acc, .int .i64 a0, .int .i64 a1, .int .i64 a2, .int .i64 a3, .int .i64 a4, .int .i64 a5, .int .i64 a6, .int .i64 a7, .int .i64 a8, .int .i64 a9, .int .i64 a10, .int .i64 a11, .int .i64 a12, .int .i64 a13, .int .i64 a14, .int .i64 a15] 69)
 obtain ⟨wb, gb, hw_wb, hg_gb, hb_wb, hk_gb, hs_wb⟩ := alloc_all wa (.cells #[.int .i64 0, .int .i64 0, .int .i64 0, .int .i64 0, .int .i64 0, .int .i64 0, .int .i64 0, .int .i64 0, .int .i64 0, .int .i64 0, .int .i64 0, .int .i64 0, .int .i64 0, .int .i64 0, .int .i64 0, .int .i64 0, .int .i64 0, .int .i64 0] 69)
 obtain ⟨wc, gc, hw_wc, hg_gc, hb_wc, hk_gc, hs_wc⟩ := alloc_all wb (.cells #[.bool false, .int .i64 0, .int .i64 0, .int .i64 0, .bool false] 180)
 obtain ⟨wd, gd, hw_wd, hg_gd, hb_wd, hk_gd, hs_wd⟩ := alloc_all wc (.cells #[.int .i64 pcx, .int .i64 acc, .int .i64 a0, .int .i64 a1, .int .i64 a2, .int .i64 a3, .int .i64 a4, .int .i64 a5, .int .i64 a6, .int .i64 a7, .int .i64 a8, .int .i64 a9, .int .i64 a10, .int .i64 a11, .int .i64 a12, .int .i64 a13, .int .i64 a14, .int .i64 a15, .int .i64 inw, .int .i64 outs, .slice qa m qc, .bool false, .int .i64 (-1), .int .i64 (-1), .int .i64 0, .bool false] 221)
 have hka := keep_at (keep_at hk_ga hb_wb) hb_wc
 have HBD := Lib.hid (bthen (bthen (bthen hb_wa hb_wb) hb_wc) hb_wd)
 have HKA := Lib.hid (keep_at hka hb_wd)
 have HKAc := Lib.hid hka
 have HKB := Lib.hid (keep_at (keep_at hk_gb hb_wc) hb_wd)
 have HKC := Lib.hid (keep_at hk_gc hb_wd)
 have HST := Lib.hid (show StAt wd gd ⟨pcx, acc, [a0, a1, a2, a3, a4, a5, a6, a7, a8, a9, a10, a11, a12, a13, a14, a15]⟩ inw outs (.slice qa m qc) noEff from ⟨hk_gd, rfl⟩)
 have HLT := Lib.hid (show w.heap.size <= ga /\ ga < gb /\ gb < gc /\ gc < gd /\ gd < wd.heap.size by omega)
 clear hka hk_ga hk_gb hk_gc hk_gd hb_wa hb_wb hb_wc hb_wd
 go_enter Tryz.func77, Tryz.ntmps77
 go_upto_region 1 with (fail)
 rw [<- hw_wa, <- hw_wb, <- hw_wc]
 (try rw [<- hs_wa])
 (try rw [<- hs_wb])
 (try rw [<- hg_gc])
 (try rw [<- hg_gb])
 (try rw [<- hg_ga])
 clear hw_wa hw_wb hw_wc hg_ga hg_gb hg_gc hs_wa hs_wb hs_wc
 go_upto_region 2 with (first | (refine wpList_load_row rfl 69 _ rfl ga rfl _ _ _ _ HKAc.out Tryz.underlying69 rfl (by kernel_rfl) ?_) | fail)
 rw [<- hw_wd]
 (try rw [<- hg_gd])
 clear hw_wd hg_gd hs_wd
 go_wp2_with fail
 refine (codeMay_any _ p _ (HC.out.ext (Ext.below HBD.out))).mono ?_
 rintro e w1 ⟨rfl, hb1⟩
 have HB1 := Lib.hid (bthen HBD.out hb1)
 have HKA1 := Lib.hid (keep_at HKA.out hb1)
 have HKB1 := Lib.hid (keep_at HKB.out hb1)
 have HKC1 := Lib.hid (keep_at HKC.out hb1)
 have HST1 := Lib.hid (HST.out.keep (hb1.block _ (lt_of_block HST.out.blk)))
 have HC1 := Lib.hid (HC.out.ext (Ext.below (bthen HBD.out hb1)))
 have HG1 := Lib.hid (HG.out.ext (Ext.below (bthen HBD.out hb1)))
 have HLT : Hid (w.heap.size <= ga /\ ga < gb /\ gb < gc /\ gc < gd /\ gd < w1.heap.size) := Lib.hid (by have := HLT.out; have := hb1.size; omega)
 clear hb1 HBD HKA HKB HKC HST HC HKAc
 by_cases hcm : codeMay p = true
 ·rw [hcm]
  have HCM := Lib.hid hcm
  clear hcm
  go_wp2_with fail
  refine (vmMay_any ga ⟨pcx, acc, [a0, a1, a2, a3, a4, a5, a6, a7, a8, a9, a10, a11, a12, a13, a14, a15]⟩ p a n cap _ _ rfl HKA1.out HN.out (by have := HCM.out; unfold codeMay at this; rw [HN.out]; simp only [Bool.and_eq_true, decide_eq_true_eq] at this; omega)).mono ?_
  rintro e w' ⟨rfl, hww⟩
  subst w'
  by_cases hvm : vmMay p ⟨pcx, acc, [a0, a1, a2, a3, a4, a5, a6, a7, a8, a9, a10, a11, a12, a13, a14, a15]⟩ = true
  ·rw [hvm]
   have HVM := Lib.hid hvm
   clear hvm
   go_wp2_with fail
   refine (aroundMay_any gd _ inw outs _ gets noEff _ HST1.out HG1.out).mono ?_
   rintro e w' ⟨rfl, hww⟩
   subst w'
   by_cases har : aroundMay inw outs gets = true
   ·rw [har]
    have HAR := Lib.hid har
    clear har
    have HR2 : Hid (R = if p.length = 0 then (⟨pcx, acc, [a0, a1, a2, a3, a4, a5, a6, a7, a8, a9, a10, a11, a12, a13, a14, a15]⟩, noEff, 0) else ((reach (leap (reckon ⟨(pcx + 1) % p.length, acc, [a0, a1, a2, a3, a4, a5, a6, a7, a8, a9, a10, a11, a12, a13, a14, a15]⟩ (p.getD pcx.toNat ⟨0, 0⟩)) (p.getD pcx.toNat ⟨0, 0⟩)) inw outs gets (p.getD pcx.toNat ⟨0, 0⟩)).1, (reach (leap (reckon ⟨(pcx + 1) % p.length, acc, [a0, a1, a2, a3, a4, a5, a6, a7, a8, a9, a10, a11, a12, a13, a14, a15]⟩ (p.getD pcx.toNat ⟨0, 0⟩)) (p.getD pcx.toNat ⟨0, 0⟩)) inw outs gets (p.getD pcx.toNat ⟨0, 0⟩)).2, 0)) := Lib.hid (by rw [HRR.out]; unfold stepV; rw [HCM.out, HVM.out, HAR.out]; rfl)
    clear HRR
    have HLN : Hid (n = p.length /\ n <= 64) := Lib.hid ⟨HN.out, by have := HCM.out; unfold codeMay at this; rw [HN.out]; simp only [Bool.and_eq_true, decide_eq_true_eq] at this; omega⟩
    by_cases hn0 : n = 0
    ·have hq0 : ((n : Int) == 0) = true := by rw [hn0]; rfl
     have HF : ∃ (pb ab b0 b1 b2 b3 b4 b5 b6 b7 b8 b9 b10 b11 b12 b13 b14 b15 : Int) (e0 : Bool) (e1 e2 e3 : Int) (e4 : Bool), Hid (w1.heap[gd]? = some (.cells #[.int .i64 pb, .int .i64 ab, .int .i64 b0, .int .i64 b1, .int .i64 b2, .int .i64 b3, .int .i64 b4, .int .i64 b5, .int .i64 b6, .int .i64 b7, .int .i64 b8, .int .i64 b9, .int .i64 b10, .int .i64 b11, .int .i64 b12, .int .i64 b13, .int .i64 b14, .int .i64 b15, .int .i64 inw, .int .i64 outs, .slice qa m qc, .bool e0, .int .i64 e1, .int .i64 e2, .int .i64 e3, .bool e4] 221 (0, 0))) /\ Hid (R = (⟨pb, ab, [b0, b1, b2, b3, b4, b5, b6, b7, b8, b9, b10, b11, b12, b13, b14, b15]⟩, ⟨e0, e1, e2, e3, e4⟩, 0)) :=
      ⟨pcx, acc, a0, a1, a2, a3, a4, a5, a6, a7, a8, a9, a10, a11, a12, a13, a14, a15, false, -1, -1, 0, false, Lib.hid HST1.out.blk, Lib.hid (by rw [HR2.out, if_pos (by rw [<- HN.out]; exact hn0)]; rfl)⟩
     obtain ⟨pb, ab, b0, b1, b2, b3, b4, b5, b6, b7, b8, b9, b10, b11, b12, b13, b14, b15, e0, e1, e2, e3, e4, HD, HRR⟩ := HF
     have HS0 := Lib.hid (show SpT w gb gc gd pb ab b0 b1 b2 b3 b4 b5 b6 b7 b8 b9 b10 b11 b12 b13 b14 b15 e0 e1 e2 e3 e4 (.int .i64 inw) (.int .i64 outs) (.slice qa m qc) false false w1.drew from ⟨below_drew HB1.out, HD.out, HKB1.out, HKC1.out⟩)
     clear hn0
     go_wp2_with fail
     refine region_inv0 rfl (by kernel_rfl) (WInv (SpV gd pb ab b0 b1 b2 b3 b4 b5 b6 b7 b8 b9 b10 b11 b12 b13 b14 b15 e0 e1 e2 e3 e4) (fun L W => SpT w gb gc gd pb ab b0 b1 b2 b3 b4 b5 b6 b7 b8 b9 b10 b11 b12 b13 b14 b15 e0 e1 e2 e3 e4 (.int .i64 inw) (.int .i64 outs) (.slice qa m qc) (L 8) (L 9) W)) (fun vs h0 => ⟨(fun i h => by cases h), HS0.out⟩) ?_ ?_
     ·simp (config := { maxSteps := 4000000 }) only [List.map, putAll, Act.put, InvE, List.setIfInBounds_toArray, List.set_cons_succ, List.set_cons_zero, Nat.reduceAdd]
      refine ⟨?_, ?_, ?_, ?_, ?_, ?_, ?_, ?_, ?_, ?_, ?_, trivial⟩
      all_goals intro L vs W hI hi hn hcl K hK
      ·rw [if_pos (by simp [Region.wanted])]
       have HK := Lib.hid (fun (v : Value) (h : v = .pointer (some ⟨gd, 0, none⟩)) => hK v W ⟨pv_upd hI.pv h, hI.st⟩)
       clear hK hI hn hcl hi
       go_simp
       exact HK.out _ rfl
      ·have r0 : vs 0 = _ := hI.pv 0 (hn 0 rfl)
       rw [if_pos (by simp [Region.wanted])]
       simp only [r0] at hK |-
       have HK := Lib.hid (fun (v : Value) (h : v = .pointer (some ⟨gd, 0, none⟩)) => hK v W ⟨pv_upd hI.pv h, hI.st⟩)
       clear hK hI hn hcl hi
       go_simp
       exact HK.out _ rfl
      ·have r1 : vs 1 = _ := hI.pv 1 (hn 1 rfl)
       rw [if_pos (by simp [Region.wanted])]
       simp only [r1] at hK |-
       have HK := Lib.hid (fun (v : Value) (h : v = .pointer (some ⟨gd, 0, none⟩)) => hK v W ⟨pv_upd hI.pv h, hI.st⟩)
       clear hK hI hn hcl hi
       go_simp
       exact HK.out _ rfl
      ·have r2 : vs 2 = _ := hI.pv 2 (hn 2 rfl)
       rw [if_pos (by simp [Region.wanted])]
       simp only [r2] at hK |-
       obtain ⟨-, hkd, -, -⟩ := hI.st
       have hrg := World.rangeAt_of_block hkd 0 18
       refine wp_load_mid 69 _ rfl gd 0 rfl [.int .i64 pb, .int .i64 ab, .int .i64 b0, .int .i64 b1, .int .i64 b2, .int .i64 b3, .int .i64 b4, .int .i64 b5, .int .i64 b6, .int .i64 b7, .int .i64 b8, .int .i64 b9, .int .i64 b10, .int .i64 b11, .int .i64 b12, .int .i64 b13, .int .i64 b14, .int .i64 b15] _ hrg Tryz.underlying69 rfl (by kernel_rfl) ?_
       exact hK _ W ⟨pv_upd hI.pv rfl, hI.st⟩
      ·rw [if_pos (by simp [Region.wanted])]
       have HK := Lib.hid (fun (v : Value) (h : v = .pointer (some ⟨gd, 0, none⟩)) => hK v W ⟨pv_upd hI.pv h, hI.st⟩)
       clear hK hI hn hcl hi
       go_simp
       exact HK.out _ rfl
      ·have r4 : vs 4 = _ := hI.pv 4 (hn 4 rfl)
       rw [if_pos (by simp [Region.wanted])]
       simp only [r4] at hK |-
       have HK := Lib.hid (fun (v : Value) (h : v = .pointer (some ⟨gd, 0, none⟩)) => hK v W ⟨pv_upd hI.pv h, hI.st⟩)
       clear hK hI hn hcl hi
       go_simp
       exact HK.out _ rfl
      ·have r5 : vs 5 = _ := hI.pv 5 (hn 5 rfl)
       rw [if_pos (by simp [Region.wanted])]
       simp only [r5] at hK |-
       have HK := Lib.hid (fun (v : Value) (h : v = .pointer (some ⟨gd, 21, none⟩)) => hK v W ⟨pv_upd hI.pv h, hI.st⟩)
       clear hK hI hn hcl hi
       go_simp
       exact HK.out _ rfl
      ·have r6 : vs 6 = _ := hI.pv 6 (hn 6 rfl)
       rw [if_pos (by simp [Region.wanted])]
       have hS := hI.st
       obtain ⟨-, hkd, -, -⟩ := hS
       have x21 := BlockIs.of hkd 21 (.bool e0) rfl
       have x22 := BlockIs.of hkd 22 (.int .i64 e1) rfl
       have x23 := BlockIs.of hkd 23 (.int .i64 e2) rfl
       have x24 := BlockIs.of hkd 24 (.int .i64 e3) rfl
       have x25 := BlockIs.of hkd 25 (.bool e4) rfl
       clear hkd
       simp only [r6] at hK |-
       have HK := Lib.hid (fun (v : Value) (h : v = .agg #[.bool e0, .int .i64 e1, .int .i64 e2, .int .i64 e3, .bool e4]) => hK v W ⟨pv_upd hI.pv h, hI.st⟩)
       clear hK hI hn hcl hi
       go_simp
       exact HK.out _ rfl
      ·have r3 : vs 3 = _ := hI.pv 3 (hn 3 rfl)
       rw [if_pos (by simp [Region.wanted])]
       simp only [r3] at hK |-
       obtain ⟨hb, hkd, hkb, hkc⟩ := hI.st
       rw [hi] at hkb
       simp only [Bool.false_eq_true, if_false] at hkb
       have hk_z : (W.setRow gb #[.int .i64 pb, .int .i64 ab, .int .i64 b0, .int .i64 b1, .int .i64 b2, .int .i64 b3, .int .i64 b4, .int .i64 b5, .int .i64 b6, .int .i64 b7, .int .i64 b8, .int .i64 b9, .int .i64 b10, .int .i64 b11, .int .i64 b12, .int .i64 b13, .int .i64 b14, .int .i64 b15]).heap[gb]? = some (.cells #[.int .i64 pb, .int .i64 ab, .int .i64 b0, .int .i64 b1, .int .i64 b2, .int .i64 b3, .int .i64 b4, .int .i64 b5, .int .i64 b6, .int .i64 b7, .int .i64 b8, .int .i64 b9, .int .i64 b10, .int .i64 b11, .int .i64 b12, .int .i64 b13, .int .i64 b14, .int .i64 b15] 69 (0, 0)) := setRow_heap _ _ _ _ _ _ hkb
       have hg_z : W.grownBy (W.setRow gb #[.int .i64 pb, .int .i64 ab, .int .i64 b0, .int .i64 b1, .int .i64 b2, .int .i64 b3, .int .i64 b4, .int .i64 b5, .int .i64 b6, .int .i64 b7, .int .i64 b8, .int .i64 b9, .int .i64 b10, .int .i64 b11, .int .i64 b12, .int .i64 b13, .int .i64 b14, .int .i64 b15]) (some gb) := setRow_grown _ _ _
       refine wp_store_row 69 _ _ rfl gb #[.int .i64 pb, .int .i64 ab, .int .i64 b0, .int .i64 b1, .int .i64 b2, .int .i64 b3, .int .i64 b4, .int .i64 b5, .int .i64 b6, .int .i64 b7, .int .i64 b8, .int .i64 b9, .int .i64 b10, .int .i64 b11, .int .i64 b12, .int .i64 b13, .int .i64 b14, .int .i64 b15] rfl rfl _ _ hkb (by kernel_rfl) rfl (by simp [Value.oneCell']) ?_
       exact hK undef _ ⟨pv_upd hI.pv trivial, ⟨bput hb hg_z (by have := HLT.out; omega) (Nat.le_refl _), ((hg_z.block _ (lt_of_block hkd) (fun q => by injection q with q; have := HLT.out; omega)).trans hkd), (by rw [if_pos (by simp [updB])]; exact hk_z), ((hg_z.block _ (lt_of_block hkc) (fun q => by injection q with q; have := HLT.out; omega)).trans (by simpa only [updB, Nat.reduceEqDiff, if_false] using hkc))⟩⟩
      ·have r7 : vs 7 = _ := hI.pv 7 (hn 7 rfl)
       rw [if_pos (by simp [Region.wanted])]
       simp only [r7] at hK |-
       obtain ⟨hb, hkd, hkb, hkc⟩ := hI.st
       rw [hi] at hkc
       simp only [Bool.false_eq_true, if_false] at hkc
       have hk_z : (W.setRow gc #[.bool e0, .int .i64 e1, .int .i64 e2, .int .i64 e3, .bool e4]).heap[gc]? = some (.cells #[.bool e0, .int .i64 e1, .int .i64 e2, .int .i64 e3, .bool e4] 180 (0, 0)) := setRow_heap _ _ _ _ _ _ hkc
       have hg_z : W.grownBy (W.setRow gc #[.bool e0, .int .i64 e1, .int .i64 e2, .int .i64 e3, .bool e4]) (some gc) := setRow_grown _ _ _
       refine wp_store_row 180 _ _ rfl gc #[.bool e0, .int .i64 e1, .int .i64 e2, .int .i64 e3, .bool e4] rfl rfl _ _ hkc (by kernel_rfl) rfl (by simp [Value.oneCell']) ?_
       exact hK undef _ ⟨pv_upd hI.pv trivial, ⟨bput hb hg_z (by have := HLT.out; omega) (Nat.le_refl _), ((hg_z.block _ (lt_of_block hkd) (fun q => by injection q with q; have := HLT.out; omega)).trans hkd), ((hg_z.block _ (lt_of_block hkb) (fun q => by injection q with q; have := HLT.out; omega)).trans (by simpa only [updB, Nat.reduceEqDiff, if_false] using hkb)), (by rw [if_pos (by simp [updB])]; exact hk_z)⟩⟩
      ·rw [if_pos (by simp [Region.wanted])]
       have HK := Lib.hid (fun (v : Value) (h : v = .int .i64 0) => hK v W ⟨pv_upd hI.pv h, hI.st⟩)
       clear hK hI hn hcl hi
       go_simp
       exact HK.out _ rfl
     ·intro vs W hI
      simp only [List.map, putAll, Act.put, List.setIfInBounds_toArray, List.set_cons_succ, List.set_cons_zero, Nat.reduceAdd]
      have hS := hI.st
      have r0 : vs 0 = _ := hI.pv 0 (by simp)
      have r1 : vs 1 = _ := hI.pv 1 (by simp)
      have r2 : vs 2 = _ := hI.pv 2 (by simp)
      have r3 : vs 3 = _ := hI.pv 3 (by simp)
      have r4 : vs 4 = _ := hI.pv 4 (by simp)
      have r5 : vs 5 = _ := hI.pv 5 (by simp)
      have r6 : vs 6 = _ := hI.pv 6 (by simp)
      have r7 : vs 7 = _ := hI.pv 7 (by simp)
      have r10 : vs 10 = _ := hI.pv 10 (by simp)
      simp only [r0, r1, r2, r3, r4, r5, r6, r7, r10]
      clear hI r0 r1 r2 r3 r4 r5 r6 r7 r10
      obtain ⟨hb, -, hkb, hkc⟩ := hS
      have HBW := Lib.hid hb
      have HRK := Lib.hid hkb
      have HRE := Lib.hid hkc
      clear hb hkb hkc
      go_wp2_with fail
      refine bodyPost_ret (v := .tuple #[.agg #[.int .i64 pb, .int .i64 ab, .int .i64 b0, .int .i64 b1, .int .i64 b2, .int .i64 b3, .int .i64 b4, .int .i64 b5, .int .i64 b6, .int .i64 b7, .int .i64 b8, .int .i64 b9, .int .i64 b10, .int .i64 b11, .int .i64 b12, .int .i64 b13, .int .i64 b14, .int .i64 b15], .agg #[.bool e0, .int .i64 e1, .int .i64 e2, .int .i64 e3, .bool e4], .int .i64 0]) (results_step rfl rfl rfl HRK.out HRE.out) rfl ⟨by rw [HRR.out]; rfl, by rw [HRR.out]; rfl, HBW.out⟩
    ·have hq0 : ((n : Int) == 0) = false := by simpa using hn0
     have hpc : 0 <= pcx /\ pcx < n := by
      have := HVM.out
      unfold vmMay at this
      simp only [Bool.and_eq_true, decide_eq_true_eq] at this
      rw [<- HN.out] at this
      omega
     obtain ⟨j, rfl⟩ : ∃ j : Nat, pcx = j := ⟨pcx.toNat, by omega⟩
     have hj : j < p.length := by rw [<- HN.out]; omega
     obtain ⟨a', cap', e, -, -, -, h4⟩ := HC1.out
     injection e with e1 e2 e3
     subst e1
     obtain ⟨b, off, rfl, hcell⟩ := h4 (by intro h; rw [h] at hj; simp at hj)
     have hyy := hcell j hj
     obtain ⟨op, arg, hoa⟩ : ∃ op arg, p[j] = ⟨op, arg⟩ := ⟨p[j].op, p[j].arg, rfl⟩
     rw [hoa] at hyy
     obtain ⟨y0, y1⟩ := hyy
     unfold IntAt at y0 y1
     simp only at y0 y1
     have hjn : j < n := by omega
     have HIM : Hid (0 <= arg /\ arg < below op n) := Lib.hid (by
      have h1 := HCM.out
      unfold codeMay at h1
      simp only [Bool.and_eq_true, List.all_eq_true] at h1
      have h2 := h1.2 _ (List.getElem_mem hj)
      rw [hoa] at h2
      unfold instrMay at h2
      rw [HN.out]
      simpa using h2)
     have HR3 : Hid (R = ((reach (leap (reckon ⟨((j : Int) + 1) % n, acc, [a0, a1, a2, a3, a4, a5, a6, a7, a8, a9, a10, a11, a12, a13, a14, a15]⟩ ⟨op, arg⟩) ⟨op, arg⟩) inw outs gets ⟨op, arg⟩).1, (reach (leap (reckon ⟨((j : Int) + 1) % n, acc, [a0, a1, a2, a3, a4, a5, a6, a7, a8, a9, a10, a11, a12, a13, a14, a15]⟩ ⟨op, arg⟩) ⟨op, arg⟩) inw outs gets ⟨op, arg⟩).2, 0)) := Lib.hid (by
      rw [HR2.out, if_neg (by rw [<- HN.out]; exact hn0)]
      have : p.getD (j : Int).toNat ⟨0, 0⟩ = ⟨op, arg⟩ := by rw [List.getD_eq_getElem?_getD, Int.toNat_natCast, List.getElem?_eq_getElem hj]; exact hoa
      rw [this, <- HN.out])
     clear HR2 hcell hoa h4 hj e2 e3
     obtain ⟨we, ge, hw_we, hg_ge, hb_we, hk_ge, hs_we⟩ := alloc_all w1 (.cells #[.int .i64 op, .int .i64 arg] 66)
     have HBE := Lib.hid hb_we
     have HKe := Lib.hid (And.intro (keep_at HKB1.out hb_we) (keep_at HKC1.out hb_we))
     have HSTe := Lib.hid (HST1.out.keep (hb_we.block _ (lt_of_block HST1.out.blk)))
     have HGE := Lib.hid (show gd < ge /\ ge < we.heap.size by have := HLT.out; omega)
     obtain ⟨pc2, hpc2⟩ : ∃ pc2 : Int, pc2 = ((j : Int) + 1) % n := ⟨_, rfl⟩
     have s1 : IntKind.i64.wrap ((j : Int) + 1) = (j : Int) + 1 := by rw [IntKind.wrap_i64]; have := HLN.out; omega
     have hb0 : 0 <= ((j : Int) + 1) % n /\ ((j : Int) + 1) % n < n := ⟨Int.emod_nonneg _ (by omega), Int.emod_lt_of_pos _ (by omega)⟩
     have s2 : ((j : Int) + 1).tmod n = pc2 := by rw [hpc2]; exact Int.tmod_eq_emod_of_nonneg (by omega)
     have s3 : IntKind.i64.wrap pc2 = pc2 := by rw [hpc2, IntKind.wrap_i64]; have := HLN.out; omega
     obtain ⟨wf, hw_wf⟩ : ∃ wf, wf = we.setCell ⟨gd, 0, none⟩ (.int .i64 pc2) := ⟨_, rfl⟩
     have hstf : StAt wf gd ⟨pc2, acc, [a0, a1, a2, a3, a4, a5, a6, a7, a8, a9, a10, a11, a12, a13, a14, a15]⟩ inw outs (.slice qa m qc) noEff := by rw [hw_wf]; exact HSTe.out.setPc pc2
     have hgf : we.grownBy wf (some gd) := by rw [hw_wf]; exact set_grown _ _ _ _
     have hkef : wf.heap[ge]? = some (.cells #[.int .i64 op, .int .i64 arg] 66 (0, 0)) := (hgf.block _ (lt_of_block hk_ge) (fun q => by injection q with q; have := HGE.out; omega)).trans hk_ge
     have z0 := BlockIs.of hkef 0 _ rfl
     have z1 := BlockIs.of hkef 1 _ rfl
     have x0 := HSTe.out.pc
     have fz := thaw HSTe.out.blk 0
     have HSTf := Lib.hid hstf
     have HKf := Lib.hid (And.intro ((hgf.block _ (lt_of_block HKe.out.1) (fun q => by injection q with q; have := HLT.out; omega)).trans HKe.out.1) ((hgf.block _ (lt_of_block HKe.out.2) (fun q => by injection q with q; have := HLT.out; omega)).trans HKe.out.2))
     have HGF := Lib.hid hgf
     have HKEF := Lib.hid hkef
     have HPC2 := Lib.hid hpc2
     clear hstf hgf hkef hb_we hk_ge hpc2 hb0 hn0
     simp only at x0
     have x0w := HST1.out.pc
     simp only at x0w
     go_upto_region 7 with (fail)
     clear x0w
     rw [<- hw_we]
     (try rw [<- hg_ge])
     clear hw_we hg_ge hs_we
     go_upto_region 8 with (fail)
     rw [<- hw_wf]
     have HBF := Lib.hid (bput (bthen HB1.out HBE.out) HGF.out (by have := HLT.out; omega) (Nat.le_refl _))
     clear hw_wf x0 fz s1 s2 s3
     go_wp2_with fail
     refine (reckon_any gd ⟨pc2, acc, [a0, a1, a2, a3, a4, a5, a6, a7, a8, a9, a10, a11, a12, a13, a14, a15]⟩ inw outs (.slice qa m qc) noEff ⟨op, arg⟩ _ HSTf.out ?_ ?_ ?_).mono ?_
     ·intro q1 q2
      have := HIM.out
      simp only at q1 q2
      unfold below at this
      rw [if_neg (by omega), if_neg (by omega), if_pos (by omega)] at this
      exact this
     ·have := HVM.out
      unfold vmMay at this
      simp only [Bool.and_eq_true] at this
      exact this.1.2
     ·have := HVM.out
      unfold vmMay at this
      simp only [Bool.and_eq_true] at this
      exact this.2
     rintro e w3 ⟨rfl, h3, g3⟩
     have k3 := (g3.block _ (lt_of_block HKEF.out) (fun q => by injection q with q; have := HGE.out; omega)).trans HKEF.out
     have HST3 := Lib.hid h3
     have HK3 := Lib.hid (And.intro ((g3.block _ (lt_of_block HKf.out.1) (fun q => by injection q with q; have := HLT.out; omega)).trans HKf.out.1) ((g3.block _ (lt_of_block HKf.out.2) (fun q => by injection q with q; have := HLT.out; omega)).trans HKf.out.2))
     have HKE3 := Lib.hid k3
     have HB3 := Lib.hid (bput HBF.out g3 (by have := HLT.out; omega) (Nat.le_refl _))
     have z0 := BlockIs.of k3 0 _ rfl
     have z1 := BlockIs.of k3 1 _ rfl
     clear h3 g3 k3
     go_wp2_with fail
     refine (leap_any gd _ inw outs _ noEff ⟨op, arg⟩ _ HST3.out).mono ?_
     rintro e w4 ⟨rfl, h4, g4⟩
     have k4 := (g4.block _ (lt_of_block HKE3.out) (fun q => by injection q with q; have := HGE.out; omega)).trans HKE3.out
     have HST4 := Lib.hid h4
     have HB4 := Lib.hid (bput HB3.out g4 (by have := HLT.out; omega) (Nat.le_refl _))
     have z0 := BlockIs.of k4 0 _ rfl
     have z1 := BlockIs.of k4 1 _ rfl
     have HK4 := Lib.hid (And.intro ((g4.block _ (lt_of_block HK3.out.1) (fun q => by injection q with q; have := HLT.out; omega)).trans HK3.out.1) ((g4.block _ (lt_of_block HK3.out.2) (fun q => by injection q with q; have := HLT.out; omega)).trans HK3.out.2))
     clear h4 g4 k4
     go_wp2_with fail
     have har := HAR.out
     unfold aroundMay at har
     simp only [Bool.and_eq_true, decide_eq_true_eq] at har
     refine (reach_any gd _ inw outs gets _ ⟨op, arg⟩ _ HST4.out ?_ ⟨har.1.2.1, har.1.2.2.1⟩ (HG.out.ext (Ext.below HB4.out)) har.1.2.2.2).mono ?_
     ·intro q1 q2
      have := HIM.out
      simp only at q1 q2
      unfold below at this
      rw [if_neg (by omega), if_neg (by omega), if_neg (by omega), if_neg (by omega), if_pos (by omega)] at this
      exact this
     rintro e w5 ⟨rfl, h5, g5⟩
     have HF : ∃ (pb ab b0 b1 b2 b3 b4 b5 b6 b7 b8 b9 b10 b11 b12 b13 b14 b15 : Int) (e0 : Bool) (e1 e2 e3 : Int) (e4 : Bool), Hid (w5.heap[gd]? = some (.cells #[.int .i64 pb, .int .i64 ab, .int .i64 b0, .int .i64 b1, .int .i64 b2, .int .i64 b3, .int .i64 b4, .int .i64 b5, .int .i64 b6, .int .i64 b7, .int .i64 b8, .int .i64 b9, .int .i64 b10, .int .i64 b11, .int .i64 b12, .int .i64 b13, .int .i64 b14, .int .i64 b15, .int .i64 inw, .int .i64 outs, .slice qa m qc, .bool e0, .int .i64 e1, .int .i64 e2, .int .i64 e3, .bool e4] 221 (0, 0))) /\ Hid (R = (⟨pb, ab, [b0, b1, b2, b3, b4, b5, b6, b7, b8, b9, b10, b11, b12, b13, b14, b15]⟩, ⟨e0, e1, e2, e3, e4⟩, 0)) := by
      have h6 := HR3.out
      rw [<- HPC2.out] at h6
      have hl := h5.len
      have hblk := h5.blk
      revert hl hblk h6
      generalize reach (leap (reckon ⟨pc2, acc, [a0, a1, a2, a3, a4, a5, a6, a7, a8, a9, a10, a11, a12, a13, a14, a15]⟩ ⟨op, arg⟩) ⟨op, arg⟩) inw outs gets ⟨op, arg⟩ = r
      obtain ⟨⟨pb, ab, mb⟩, ⟨e0, e1, e2, e3, e4⟩⟩ := r
      intro h6 hl hblk
      obtain ⟨b0, b1, b2, b3, b4, b5, b6, b7, b8, b9, b10, b11, b12, b13, b14, b15, rfl⟩ := list16 mb hl
      exact ⟨pb, ab, b0, b1, b2, b3, b4, b5, b6, b7, b8, b9, b10, b11, b12, b13, b14, b15, e0, e1, e2, e3, e4, Lib.hid hblk, Lib.hid h6⟩
     obtain ⟨pb, ab, b0, b1, b2, b3, b4, b5, b6, b7, b8, b9, b10, b11, b12, b13, b14, b15, e0, e1, e2, e3, e4, HD, HRR⟩ := HF
     have HB5 := Lib.hid (bput HB4.out g5 (by have := HLT.out; omega) (Nat.le_refl _))
     have HS0 := Lib.hid (show SpT w gb gc gd pb ab b0 b1 b2 b3 b4 b5 b6 b7 b8 b9 b10 b11 b12 b13 b14 b15 e0 e1 e2 e3 e4 (.int .i64 inw) (.int .i64 outs) (.slice qa m qc) false false w5.drew from ⟨below_drew HB5.out, HD.out, (g5.block _ (lt_of_block HK4.out.1) (fun q => by injection q with q; have := HLT.out; omega)).trans HK4.out.1, (g5.block _ (lt_of_block HK4.out.2) (fun q => by injection q with q; have := HLT.out; omega)).trans HK4.out.2⟩)
     clear har h5 g5 z0 z1
     go_wp2_with fail
     refine region_inv0 rfl (by kernel_rfl) (WInv (SpV gd pb ab b0 b1 b2 b3 b4 b5 b6 b7 b8 b9 b10 b11 b12 b13 b14 b15 e0 e1 e2 e3 e4) (fun L W => SpT w gb gc gd pb ab b0 b1 b2 b3 b4 b5 b6 b7 b8 b9 b10 b11 b12 b13 b14 b15 e0 e1 e2 e3 e4 (.int .i64 inw) (.int .i64 outs) (.slice qa m qc) (L 8) (L 9) W)) (fun vs h0 => ⟨(fun i h => by cases h), HS0.out⟩) ?_ ?_
     ·simp (config := { maxSteps := 4000000 }) only [List.map, putAll, Act.put, InvE, List.setIfInBounds_toArray, List.set_cons_succ, List.set_cons_zero, Nat.reduceAdd]
      refine ⟨?_, ?_, ?_, ?_, ?_, ?_, ?_, ?_, ?_, ?_, ?_, trivial⟩
      all_goals intro L vs W hI hi hn hcl K hK
      ·rw [if_pos (by simp [Region.wanted])]
       have HK := Lib.hid (fun (v : Value) (h : v = .pointer (some ⟨gd, 0, none⟩)) => hK v W ⟨pv_upd hI.pv h, hI.st⟩)
       clear hK hI hn hcl hi
       go_simp
       exact HK.out _ rfl
      ·have r0 : vs 0 = _ := hI.pv 0 (hn 0 rfl)
       rw [if_pos (by simp [Region.wanted])]
       simp only [r0] at hK |-
       have HK := Lib.hid (fun (v : Value) (h : v = .pointer (some ⟨gd, 0, none⟩)) => hK v W ⟨pv_upd hI.pv h, hI.st⟩)
       clear hK hI hn hcl hi
       go_simp
       exact HK.out _ rfl
      ·have r1 : vs 1 = _ := hI.pv 1 (hn 1 rfl)
       rw [if_pos (by simp [Region.wanted])]
       simp only [r1] at hK |-
       have HK := Lib.hid (fun (v : Value) (h : v = .pointer (some ⟨gd, 0, none⟩)) => hK v W ⟨pv_upd hI.pv h, hI.st⟩)
       clear hK hI hn hcl hi
       go_simp
       exact HK.out _ rfl
      ·have r2 : vs 2 = _ := hI.pv 2 (hn 2 rfl)
       rw [if_pos (by simp [Region.wanted])]
       simp only [r2] at hK |-
       obtain ⟨-, hkd, -, -⟩ := hI.st
       have hrg := World.rangeAt_of_block hkd 0 18
       refine wp_load_mid 69 _ rfl gd 0 rfl [.int .i64 pb, .int .i64 ab, .int .i64 b0, .int .i64 b1, .int .i64 b2, .int .i64 b3, .int .i64 b4, .int .i64 b5, .int .i64 b6, .int .i64 b7, .int .i64 b8, .int .i64 b9, .int .i64 b10, .int .i64 b11, .int .i64 b12, .int .i64 b13, .int .i64 b14, .int .i64 b15] _ hrg Tryz.underlying69 rfl (by kernel_rfl) ?_
       exact hK _ W ⟨pv_upd hI.pv rfl, hI.st⟩
      ·rw [if_pos (by simp [Region.wanted])]
       have HK := Lib.hid (fun (v : Value) (h : v = .pointer (some ⟨gd, 0, none⟩)) => hK v W ⟨pv_upd hI.pv h, hI.st⟩)
       clear hK hI hn hcl hi
       go_simp
       exact HK.out _ rfl
      ·have r4 : vs 4 = _ := hI.pv 4 (hn 4 rfl)
       rw [if_pos (by simp [Region.wanted])]
       simp only [r4] at hK |-
       have HK := Lib.hid (fun (v : Value) (h : v = .pointer (some ⟨gd, 0, none⟩)) => hK v W ⟨pv_upd hI.pv h, hI.st⟩)
       clear hK hI hn hcl hi
       go_simp
       exact HK.out _ rfl
      ·have r5 : vs 5 = _ := hI.pv 5 (hn 5 rfl)
       rw [if_pos (by simp [Region.wanted])]
       simp only [r5] at hK |-
       have HK := Lib.hid (fun (v : Value) (h : v = .pointer (some ⟨gd, 21, none⟩)) => hK v W ⟨pv_upd hI.pv h, hI.st⟩)
       clear hK hI hn hcl hi
       go_simp
       exact HK.out _ rfl
      ·have r6 : vs 6 = _ := hI.pv 6 (hn 6 rfl)
       rw [if_pos (by simp [Region.wanted])]
       have hS := hI.st
       obtain ⟨-, hkd, -, -⟩ := hS
       have x21 := BlockIs.of hkd 21 (.bool e0) rfl
       have x22 := BlockIs.of hkd 22 (.int .i64 e1) rfl
       have x23 := BlockIs.of hkd 23 (.int .i64 e2) rfl
       have x24 := BlockIs.of hkd 24 (.int .i64 e3) rfl
       have x25 := BlockIs.of hkd 25 (.bool e4) rfl
       clear hkd
       simp only [r6] at hK |-
       have HK := Lib.hid (fun (v : Value) (h : v = .agg #[.bool e0, .int .i64 e1, .int .i64 e2, .int .i64 e3, .bool e4]) => hK v W ⟨pv_upd hI.pv h, hI.st⟩)
       clear hK hI hn hcl hi
       go_simp
       exact HK.out _ rfl
      ·have r3 : vs 3 = _ := hI.pv 3 (hn 3 rfl)
       rw [if_pos (by simp [Region.wanted])]
       simp only [r3] at hK |-
       obtain ⟨hb, hkd, hkb, hkc⟩ := hI.st
       rw [hi] at hkb
       simp only [Bool.false_eq_true, if_false] at hkb
       have hk_z : (W.setRow gb #[.int .i64 pb, .int .i64 ab, .int .i64 b0, .int .i64 b1, .int .i64 b2, .int .i64 b3, .int .i64 b4, .int .i64 b5, .int .i64 b6, .int .i64 b7, .int .i64 b8, .int .i64 b9, .int .i64 b10, .int .i64 b11, .int .i64 b12, .int .i64 b13, .int .i64 b14, .int .i64 b15]).heap[gb]? = some (.cells #[.int .i64 pb, .int .i64 ab, .int .i64 b0, .int .i64 b1, .int .i64 b2, .int .i64 b3, .int .i64 b4, .int .i64 b5, .int .i64 b6, .int .i64 b7, .int .i64 b8, .int .i64 b9, .int .i64 b10, .int .i64 b11, .int .i64 b12, .int .i64 b13, .int .i64 b14, .int .i64 b15] 69 (0, 0)) := setRow_heap _ _ _ _ _ _ hkb
       have hg_z : W.grownBy (W.setRow gb #[.int .i64 pb, .int .i64 ab, .int .i64 b0, .int .i64 b1, .int .i64 b2, .int .i64 b3, .int .i64 b4, .int .i64 b5, .int .i64 b6, .int .i64 b7, .int .i64 b8, .int .i64 b9, .int .i64 b10, .int .i64 b11, .int .i64 b12, .int .i64 b13, .int .i64 b14, .int .i64 b15]) (some gb) := setRow_grown _ _ _
       refine wp_store_row 69 _ _ rfl gb #[.int .i64 pb, .int .i64 ab, .int .i64 b0, .int .i64 b1, .int .i64 b2, .int .i64 b3, .int .i64 b4, .int .i64 b5, .int .i64 b6, .int .i64 b7, .int .i64 b8, .int .i64 b9, .int .i64 b10, .int .i64 b11, .int .i64 b12, .int .i64 b13, .int .i64 b14, .int .i64 b15] rfl rfl _ _ hkb (by kernel_rfl) rfl (by simp [Value.oneCell']) ?_
       exact hK undef _ ⟨pv_upd hI.pv trivial, ⟨bput hb hg_z (by have := HLT.out; omega) (Nat.le_refl _), ((hg_z.block _ (lt_of_block hkd) (fun q => by injection q with q; have := HLT.out; omega)).trans hkd), (by rw [if_pos (by simp [updB])]; exact hk_z), ((hg_z.block _ (lt_of_block hkc) (fun q => by injection q with q; have := HLT.out; omega)).trans (by simpa only [updB, Nat.reduceEqDiff, if_false] using hkc))⟩⟩
      ·have r7 : vs 7 = _ := hI.pv 7 (hn 7 rfl)
       rw [if_pos (by simp [Region.wanted])]
       simp only [r7] at hK |-
       obtain ⟨hb, hkd, hkb, hkc⟩ := hI.st
       rw [hi] at hkc
       simp only [Bool.false_eq_true, if_false] at hkc
       have hk_z : (W.setRow gc #[.bool e0, .int .i64 e1, .int .i64 e2, .int .i64 e3, .bool e4]).heap[gc]? = some (.cells #[.bool e0, .int .i64 e1, .int .i64 e2, .int .i64 e3, .bool e4] 180 (0, 0)) := setRow_heap _ _ _ _ _ _ hkc
       have hg_z : W.grownBy (W.setRow gc #[.bool e0, .int .i64 e1, .int .i64 e2, .int .i64 e3, .bool e4]) (some gc) := setRow_grown _ _ _
       refine wp_store_row 180 _ _ rfl gc #[.bool e0, .int .i64 e1, .int .i64 e2, .int .i64 e3, .bool e4] rfl rfl _ _ hkc (by kernel_rfl) rfl (by simp [Value.oneCell']) ?_
       exact hK undef _ ⟨pv_upd hI.pv trivial, ⟨bput hb hg_z (by have := HLT.out; omega) (Nat.le_refl _), ((hg_z.block _ (lt_of_block hkd) (fun q => by injection q with q; have := HLT.out; omega)).trans hkd), ((hg_z.block _ (lt_of_block hkb) (fun q => by injection q with q; have := HLT.out; omega)).trans (by simpa only [updB, Nat.reduceEqDiff, if_false] using hkb)), (by rw [if_pos (by simp [updB])]; exact hk_z)⟩⟩
      ·rw [if_pos (by simp [Region.wanted])]
       have HK := Lib.hid (fun (v : Value) (h : v = .int .i64 0) => hK v W ⟨pv_upd hI.pv h, hI.st⟩)
       clear hK hI hn hcl hi
       go_simp
       exact HK.out _ rfl
     ·intro vs W hI
      simp only [List.map, putAll, Act.put, List.setIfInBounds_toArray, List.set_cons_succ, List.set_cons_zero, Nat.reduceAdd]
      have hS := hI.st
      have r0 : vs 0 = _ := hI.pv 0 (by simp)
      have r1 : vs 1 = _ := hI.pv 1 (by simp)
      have r2 : vs 2 = _ := hI.pv 2 (by simp)
      have r3 : vs 3 = _ := hI.pv 3 (by simp)
      have r4 : vs 4 = _ := hI.pv 4 (by simp)
      have r5 : vs 5 = _ := hI.pv 5 (by simp)
      have r6 : vs 6 = _ := hI.pv 6 (by simp)
      have r7 : vs 7 = _ := hI.pv 7 (by simp)
      have r10 : vs 10 = _ := hI.pv 10 (by simp)
      simp only [r0, r1, r2, r3, r4, r5, r6, r7, r10]
      clear hI r0 r1 r2 r3 r4 r5 r6 r7 r10
      obtain ⟨hb, -, hkb, hkc⟩ := hS
      have HBW := Lib.hid hb
      have HRK := Lib.hid hkb
      have HRE := Lib.hid hkc
      clear hb hkb hkc
      go_wp2_with fail
      refine bodyPost_ret (v := .tuple #[.agg #[.int .i64 pb, .int .i64 ab, .int .i64 b0, .int .i64 b1, .int .i64 b2, .int .i64 b3, .int .i64 b4, .int .i64 b5, .int .i64 b6, .int .i64 b7, .int .i64 b8, .int .i64 b9, .int .i64 b10, .int .i64 b11, .int .i64 b12, .int .i64 b13, .int .i64 b14, .int .i64 b15], .agg #[.bool e0, .int .i64 e1, .int .i64 e2, .int .i64 e3, .bool e4], .int .i64 0]) (results_step rfl rfl rfl HRK.out HRE.out) rfl ⟨by rw [HRR.out]; rfl, by rw [HRR.out]; rfl, HBW.out⟩
   ·have har : aroundMay inw outs gets = false := by simpa using har
    rw [har]
    have HAR := Lib.hid har
    clear har
    have HZ : Hid (R = (zeroVm, zeroEff, 1000)) := Lib.hid (by rw [HRR.out]; simp [stepV, HAR.out])
    clear HRR
    have hkz : (w1.setRow gb #[.int .i64 0, .int .i64 0, .int .i64 0, .int .i64 0, .int .i64 0, .int .i64 0, .int .i64 0, .int .i64 0, .int .i64 0, .int .i64 0, .int .i64 0, .int .i64 0, .int .i64 0, .int .i64 0, .int .i64 0, .int .i64 0, .int .i64 0, .int .i64 0]).heap[gb]? = some (.cells #[.int .i64 0, .int .i64 0, .int .i64 0, .int .i64 0, .int .i64 0, .int .i64 0, .int .i64 0, .int .i64 0, .int .i64 0, .int .i64 0, .int .i64 0, .int .i64 0, .int .i64 0, .int .i64 0, .int .i64 0, .int .i64 0, .int .i64 0, .int .i64 0] 69 (0, 0)) := setRow_heap _ _ _ _ _ _ HKB1.out
    have hgz := setRow_grown w1 gb #[.int .i64 0, .int .i64 0, .int .i64 0, .int .i64 0, .int .i64 0, .int .i64 0, .int .i64 0, .int .i64 0, .int .i64 0, .int .i64 0, .int .i64 0, .int .i64 0, .int .i64 0, .int .i64 0, .int .i64 0, .int .i64 0, .int .i64 0, .int .i64 0]
    have hkc : (w1.setRow gb #[.int .i64 0, .int .i64 0, .int .i64 0, .int .i64 0, .int .i64 0, .int .i64 0, .int .i64 0, .int .i64 0, .int .i64 0, .int .i64 0, .int .i64 0, .int .i64 0, .int .i64 0, .int .i64 0, .int .i64 0, .int .i64 0, .int .i64 0, .int .i64 0]).heap[gc]? = some (.cells #[.bool false, .int .i64 0, .int .i64 0, .int .i64 0, .bool false] 180 (0, 0)) := (hgz.block _ (lt_of_block HKC1.out) (fun q => by injection q with q; have := HLT.out; omega)).trans HKC1.out
    obtain ⟨wz, hw_wz⟩ : ∃ wz, wz = w1.setRow gb #[.int .i64 0, .int .i64 0, .int .i64 0, .int .i64 0, .int .i64 0, .int .i64 0, .int .i64 0, .int .i64 0, .int .i64 0, .int .i64 0, .int .i64 0, .int .i64 0, .int .i64 0, .int .i64 0, .int .i64 0, .int .i64 0, .int .i64 0, .int .i64 0] := ⟨_, rfl⟩
    rw [<- hw_wz] at hkz hgz hkc
    have hky : (wz.setRow gc #[.bool false, .int .i64 0, .int .i64 0, .int .i64 0, .bool false]).heap[gc]? = some (.cells #[.bool false, .int .i64 0, .int .i64 0, .int .i64 0, .bool false] 180 (0, 0)) := setRow_heap _ _ _ _ _ _ hkc
    have hgy := setRow_grown wz gc #[.bool false, .int .i64 0, .int .i64 0, .int .i64 0, .bool false]
    have hkb2 : (wz.setRow gc #[.bool false, .int .i64 0, .int .i64 0, .int .i64 0, .bool false]).heap[gb]? = some (.cells #[.int .i64 0, .int .i64 0, .int .i64 0, .int .i64 0, .int .i64 0, .int .i64 0, .int .i64 0, .int .i64 0, .int .i64 0, .int .i64 0, .int .i64 0, .int .i64 0, .int .i64 0, .int .i64 0, .int .i64 0, .int .i64 0, .int .i64 0, .int .i64 0] 69 (0, 0)) := (hgy.block _ (lt_of_block hkz) (fun q => by injection q with q; have := HLT.out; omega)).trans hkz
    have HBW := Lib.hid (bput (bput HB1.out hgz (by have := HLT.out; omega) (Nat.le_refl _)) hgy (by have := HLT.out; omega) (Nat.le_refl _))
    have HKC2 := Lib.hid hkc
    have HRK := Lib.hid hkb2
    have HRE := Lib.hid hky
    clear hkz hgz hkc hky hgy hkb2
    go_wp2_with (first | (refine wpList_store_row rfl 69 _ _ rfl gb #[.int .i64 0, .int .i64 0, .int .i64 0, .int .i64 0, .int .i64 0, .int .i64 0, .int .i64 0, .int .i64 0, .int .i64 0, .int .i64 0, .int .i64 0, .int .i64 0, .int .i64 0, .int .i64 0, .int .i64 0, .int .i64 0, .int .i64 0, .int .i64 0] rfl rfl _ _ HKB1.out (by kernel_rfl) rfl (by simp [Value.oneCell']) ?_; rw [<- hw_wz]; clear hw_wz) | (refine wpList_store_row rfl 180 _ _ rfl gc #[.bool false, .int .i64 0, .int .i64 0, .int .i64 0, .bool false] rfl rfl _ _ HKC2.out (by kernel_rfl) rfl (by simp [Value.oneCell']) ?_) | fail)
    refine bodyPost_ret (v := .tuple #[.agg #[.int .i64 0, .int .i64 0, .int .i64 0, .int .i64 0, .int .i64 0, .int .i64 0, .int .i64 0, .int .i64 0, .int .i64 0, .int .i64 0, .int .i64 0, .int .i64 0, .int .i64 0, .int .i64 0, .int .i64 0, .int .i64 0, .int .i64 0, .int .i64 0], .agg #[.bool false, .int .i64 0, .int .i64 0, .int .i64 0, .bool false], .int .i64 1000]) (results_step rfl rfl rfl HRK.out HRE.out) rfl ⟨by rw [HZ.out]; rfl, by rw [HZ.out]; rfl, HBW.out⟩
  ·have hvm : vmMay p ⟨pcx, acc, [a0, a1, a2, a3, a4, a5, a6, a7, a8, a9, a10, a11, a12, a13, a14, a15]⟩ = false := by simpa using hvm
   rw [hvm]
   have HVM := Lib.hid hvm
   clear hvm
   have HZ : Hid (R = (zeroVm, zeroEff, 1000)) := Lib.hid (by rw [HRR.out]; simp [stepV, HVM.out])
   clear HRR
   have hkz : (w1.setRow gb #[.int .i64 0, .int .i64 0, .int .i64 0, .int .i64 0, .int .i64 0, .int .i64 0, .int .i64 0, .int .i64 0, .int .i64 0, .int .i64 0, .int .i64 0, .int .i64 0, .int .i64 0, .int .i64 0, .int .i64 0, .int .i64 0, .int .i64 0, .int .i64 0]).heap[gb]? = some (.cells #[.int .i64 0, .int .i64 0, .int .i64 0, .int .i64 0, .int .i64 0, .int .i64 0, .int .i64 0, .int .i64 0, .int .i64 0, .int .i64 0, .int .i64 0, .int .i64 0, .int .i64 0, .int .i64 0, .int .i64 0, .int .i64 0, .int .i64 0, .int .i64 0] 69 (0, 0)) := setRow_heap _ _ _ _ _ _ HKB1.out
   have hgz := setRow_grown w1 gb #[.int .i64 0, .int .i64 0, .int .i64 0, .int .i64 0, .int .i64 0, .int .i64 0, .int .i64 0, .int .i64 0, .int .i64 0, .int .i64 0, .int .i64 0, .int .i64 0, .int .i64 0, .int .i64 0, .int .i64 0, .int .i64 0, .int .i64 0, .int .i64 0]
   have hkc : (w1.setRow gb #[.int .i64 0, .int .i64 0, .int .i64 0, .int .i64 0, .int .i64 0, .int .i64 0, .int .i64 0, .int .i64 0, .int .i64 0, .int .i64 0, .int .i64 0, .int .i64 0, .int .i64 0, .int .i64 0, .int .i64 0, .int .i64 0, .int .i64 0, .int .i64 0]).heap[gc]? = some (.cells #[.bool false, .int .i64 0, .int .i64 0, .int .i64 0, .bool false] 180 (0, 0)) := (hgz.block _ (lt_of_block HKC1.out) (fun q => by injection q with q; have := HLT.out; omega)).trans HKC1.out
   obtain ⟨wz, hw_wz⟩ : ∃ wz, wz = w1.setRow gb #[.int .i64 0, .int .i64 0, .int .i64 0, .int .i64 0, .int .i64 0, .int .i64 0, .int .i64 0, .int .i64 0, .int .i64 0, .int .i64 0, .int .i64 0, .int .i64 0, .int .i64 0, .int .i64 0, .int .i64 0, .int .i64 0, .int .i64 0, .int .i64 0] := ⟨_, rfl⟩
   rw [<- hw_wz] at hkz hgz hkc
   have hky : (wz.setRow gc #[.bool false, .int .i64 0, .int .i64 0, .int .i64 0, .bool false]).heap[gc]? = some (.cells #[.bool false, .int .i64 0, .int .i64 0, .int .i64 0, .bool false] 180 (0, 0)) := setRow_heap _ _ _ _ _ _ hkc
   have hgy := setRow_grown wz gc #[.bool false, .int .i64 0, .int .i64 0, .int .i64 0, .bool false]
   have hkb2 : (wz.setRow gc #[.bool false, .int .i64 0, .int .i64 0, .int .i64 0, .bool false]).heap[gb]? = some (.cells #[.int .i64 0, .int .i64 0, .int .i64 0, .int .i64 0, .int .i64 0, .int .i64 0, .int .i64 0, .int .i64 0, .int .i64 0, .int .i64 0, .int .i64 0, .int .i64 0, .int .i64 0, .int .i64 0, .int .i64 0, .int .i64 0, .int .i64 0, .int .i64 0] 69 (0, 0)) := (hgy.block _ (lt_of_block hkz) (fun q => by injection q with q; have := HLT.out; omega)).trans hkz
   have HBW := Lib.hid (bput (bput HB1.out hgz (by have := HLT.out; omega) (Nat.le_refl _)) hgy (by have := HLT.out; omega) (Nat.le_refl _))
   have HKC2 := Lib.hid hkc
   have HRK := Lib.hid hkb2
   have HRE := Lib.hid hky
   clear hkz hgz hkc hky hgy hkb2
   go_wp2_with (first | (refine wpList_store_row rfl 69 _ _ rfl gb #[.int .i64 0, .int .i64 0, .int .i64 0, .int .i64 0, .int .i64 0, .int .i64 0, .int .i64 0, .int .i64 0, .int .i64 0, .int .i64 0, .int .i64 0, .int .i64 0, .int .i64 0, .int .i64 0, .int .i64 0, .int .i64 0, .int .i64 0, .int .i64 0] rfl rfl _ _ HKB1.out (by kernel_rfl) rfl (by simp [Value.oneCell']) ?_; rw [<- hw_wz]; clear hw_wz) | (refine wpList_store_row rfl 180 _ _ rfl gc #[.bool false, .int .i64 0, .int .i64 0, .int .i64 0, .bool false] rfl rfl _ _ HKC2.out (by kernel_rfl) rfl (by simp [Value.oneCell']) ?_) | fail)
   refine bodyPost_ret (v := .tuple #[.agg #[.int .i64 0, .int .i64 0, .int .i64 0, .int .i64 0, .int .i64 0, .int .i64 0, .int .i64 0, .int .i64 0, .int .i64 0, .int .i64 0, .int .i64 0, .int .i64 0, .int .i64 0, .int .i64 0, .int .i64 0, .int .i64 0, .int .i64 0, .int .i64 0], .agg #[.bool false, .int .i64 0, .int .i64 0, .int .i64 0, .bool false], .int .i64 1000]) (results_step rfl rfl rfl HRK.out HRE.out) rfl ⟨by rw [HZ.out]; rfl, by rw [HZ.out]; rfl, HBW.out⟩
 ·have hcm : codeMay p = false := by simpa using hcm
  rw [hcm]
  have HCM := Lib.hid hcm
  clear hcm
  have HZ : Hid (R = (zeroVm, zeroEff, 1000)) := Lib.hid (by rw [HRR.out]; simp [stepV, HCM.out])
  clear HRR
  have hkz : (w1.setRow gb #[.int .i64 0, .int .i64 0, .int .i64 0, .int .i64 0, .int .i64 0, .int .i64 0, .int .i64 0, .int .i64 0, .int .i64 0, .int .i64 0, .int .i64 0, .int .i64 0, .int .i64 0, .int .i64 0, .int .i64 0, .int .i64 0, .int .i64 0, .int .i64 0]).heap[gb]? = some (.cells #[.int .i64 0, .int .i64 0, .int .i64 0, .int .i64 0, .int .i64 0, .int .i64 0, .int .i64 0, .int .i64 0, .int .i64 0, .int .i64 0, .int .i64 0, .int .i64 0, .int .i64 0, .int .i64 0, .int .i64 0, .int .i64 0, .int .i64 0, .int .i64 0] 69 (0, 0)) := setRow_heap _ _ _ _ _ _ HKB1.out
  have hgz := setRow_grown w1 gb #[.int .i64 0, .int .i64 0, .int .i64 0, .int .i64 0, .int .i64 0, .int .i64 0, .int .i64 0, .int .i64 0, .int .i64 0, .int .i64 0, .int .i64 0, .int .i64 0, .int .i64 0, .int .i64 0, .int .i64 0, .int .i64 0, .int .i64 0, .int .i64 0]
  have hkc : (w1.setRow gb #[.int .i64 0, .int .i64 0, .int .i64 0, .int .i64 0, .int .i64 0, .int .i64 0, .int .i64 0, .int .i64 0, .int .i64 0, .int .i64 0, .int .i64 0, .int .i64 0, .int .i64 0, .int .i64 0, .int .i64 0, .int .i64 0, .int .i64 0, .int .i64 0]).heap[gc]? = some (.cells #[.bool false, .int .i64 0, .int .i64 0, .int .i64 0, .bool false] 180 (0, 0)) := (hgz.block _ (lt_of_block HKC1.out) (fun q => by injection q with q; have := HLT.out; omega)).trans HKC1.out
  obtain ⟨wz, hw_wz⟩ : ∃ wz, wz = w1.setRow gb #[.int .i64 0, .int .i64 0, .int .i64 0, .int .i64 0, .int .i64 0, .int .i64 0, .int .i64 0, .int .i64 0, .int .i64 0, .int .i64 0, .int .i64 0, .int .i64 0, .int .i64 0, .int .i64 0, .int .i64 0, .int .i64 0, .int .i64 0, .int .i64 0] := ⟨_, rfl⟩
  rw [<- hw_wz] at hkz hgz hkc
  have hky : (wz.setRow gc #[.bool false, .int .i64 0, .int .i64 0, .int .i64 0, .bool false]).heap[gc]? = some (.cells #[.bool false, .int .i64 0, .int .i64 0, .int .i64 0, .bool false] 180 (0, 0)) := setRow_heap _ _ _ _ _ _ hkc
  have hgy := setRow_grown wz gc #[.bool false, .int .i64 0, .int .i64 0, .int .i64 0, .bool false]
  have hkb2 : (wz.setRow gc #[.bool false, .int .i64 0, .int .i64 0, .int .i64 0, .bool false]).heap[gb]? = some (.cells #[.int .i64 0, .int .i64 0, .int .i64 0, .int .i64 0, .int .i64 0, .int .i64 0, .int .i64 0, .int .i64 0, .int .i64 0, .int .i64 0, .int .i64 0, .int .i64 0, .int .i64 0, .int .i64 0, .int .i64 0, .int .i64 0, .int .i64 0, .int .i64 0] 69 (0, 0)) := (hgy.block _ (lt_of_block hkz) (fun q => by injection q with q; have := HLT.out; omega)).trans hkz
  have HBW := Lib.hid (bput (bput HB1.out hgz (by have := HLT.out; omega) (Nat.le_refl _)) hgy (by have := HLT.out; omega) (Nat.le_refl _))
  have HKC2 := Lib.hid hkc
  have HRK := Lib.hid hkb2
  have HRE := Lib.hid hky
  clear hkz hgz hkc hky hgy hkb2
  go_wp2_with (first | (refine wpList_store_row rfl 69 _ _ rfl gb #[.int .i64 0, .int .i64 0, .int .i64 0, .int .i64 0, .int .i64 0, .int .i64 0, .int .i64 0, .int .i64 0, .int .i64 0, .int .i64 0, .int .i64 0, .int .i64 0, .int .i64 0, .int .i64 0, .int .i64 0, .int .i64 0, .int .i64 0, .int .i64 0] rfl rfl _ _ HKB1.out (by kernel_rfl) rfl (by simp [Value.oneCell']) ?_; rw [<- hw_wz]; clear hw_wz) | (refine wpList_store_row rfl 180 _ _ rfl gc #[.bool false, .int .i64 0, .int .i64 0, .int .i64 0, .bool false] rfl rfl _ _ HKC2.out (by kernel_rfl) rfl (by simp [Value.oneCell']) ?_) | fail)
  refine bodyPost_ret (v := .tuple #[.agg #[.int .i64 0, .int .i64 0, .int .i64 0, .int .i64 0, .int .i64 0, .int .i64 0, .int .i64 0, .int .i64 0, .int .i64 0, .int .i64 0, .int .i64 0, .int .i64 0, .int .i64 0, .int .i64 0, .int .i64 0, .int .i64 0, .int .i64 0, .int .i64 0], .agg #[.bool false, .int .i64 0, .int .i64 0, .int .i64 0, .bool false], .int .i64 1000]) (results_step rfl rfl rfl HRK.out HRE.out) rfl ⟨by rw [HZ.out]; rfl, by rw [HZ.out]; rfl, HBW.out⟩
end Go.Proofs.YtooeeiiiflfckaaGreat
