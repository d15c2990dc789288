/- slices.Equal at the kinds of a configuration. -/
import Derived.Test.YtjhhncahlijohaaFlat
import Derived.Test.YtjhhncahlijohaaTail
set_option linter.unusedVariables false
set_option linter.unusedSimpArgs false
namespace Go.Proofs.Ytjhhncahlijohaa
open Go.RowKit

abbrev instrV (x : Instr) : Value := .agg #[.int .i64 x.op, .int .i64 x.arg]
abbrev windowV (x : Window) : Value := .agg #[.int .i64 x.from_, .int .i64 x.to_, .int .i64 x.part]
theorem list_eq_iff {α : Type} (xs ys : List α) (hl : xs.length = ys.length) : xs = ys ↔ ∀ i (h : i < xs.length), xs[i] = ys[i]'(hl ▸ h) := by
  constructor
  · rintro rfl i h; rfl
  · intro h
    exact List.ext_getElem hl (fun i h1 h2 => h i h1)
theorem neTask (x y : Task) (w : World) : (binOp .neq 48 (taskV x) (taskV y)).run Try.prog w = .ok (.bool (!decide (x = y))) w := by
  obtain ⟨y0, y1, y2, y3, y4, y5⟩ := x
  obtain ⟨z0, z1, z2, z3, z4, z5⟩ := y
  simp [go_sem, Try.underlying48, Try.underlying3]
  repeat' split
  all_goals simp_all
set_option maxRecDepth 100000 in
set_option maxHeartbeats 1000000 in
theorem equalTask_any (v v' : Value) (xs ys : List Task) (w : World) (hv : TasksV w v xs) (hv' : TasksV w v' ys) :
    Calls Try.prog 37 #[v, v'] w fun e w' => e = .returned (.bool (decide (xs = ys))) ∧ Below w.heap.size w w' := by
  obtain ⟨a, c, rfl, hv1, hv2, hv3, hv4⟩ := hv
  obtain ⟨a', c', rfl, hw1, hw2, hw3, hw4⟩ := hv'
  have HV := Lib.hid hv4
  have HW := Lib.hid hw4
  clear hv4 hw4
  have hl1 : xs.length ≤ 70368744175616 := by omega
  have hl2 : ys.length ≤ 70368744175616 := by omega
  by_cases hl : xs.length = ys.length
  · have HL := Lib.hid hl
    have e1 : ((xs.length : Int) != (ys.length : Int)) = false := by simp [hl]
    clear hl
    go_enter Try.func37, Try.ntmps37
    go_wp2_with fail
    go_loopw [13] (fun i wr => ∃ (k : Nat), k ≤ xs.length ∧ i = .int .i64 k ∧ Hid (∀ j (hj : j < xs.length), j < k → xs[j] = ys[j]'(HL.out ▸ hj)) ∧ Below w.heap.size w wr) (fun i _ => xs.length - (intOf i).toNat)
    case atStart => exact ⟨0, by omega, rfl, Lib.hid (fun j hj h => by omega), Below.refl _ _⟩
    case round =>
      obtain ⟨k, hk, rfl, HD, hB⟩ := hrel
      have HB := Lib.hid hB
      clear hB
      by_cases hlt : k < xs.length
      · have hlt' : k < ys.length := HL.out ▸ hlt
        obtain ⟨b, off, rfl, hcell⟩ := HV.out (by intro h; rw [h] at hlt; simp at hlt)
        obtain ⟨b', off', rfl, hcell'⟩ := HW.out (by intro h; rw [h] at hlt'; simp at hlt')
        obtain ⟨y0, y1, y2, y3, y4, y5⟩ := TaskAt.ext (Ext.below HB.out) (hcell k hlt)
        obtain ⟨z0, z1, z2, z3, z4, z5⟩ := TaskAt.ext (Ext.below HB.out) (hcell' k hlt')
        unfold IntAt at y0 y1 y2 y3 y4 y5 z0 z1 z2 z3 z4 z5
        clear hcell hcell'
        by_cases he : xs[k] = ys[k]
        · have hne : ∀ W, (binOp .neq 48 (taskV xs[k]) (taskV ys[k])).run Try.prog W = .ok (.bool false) W := fun W => by rw [neTask, decide_eq_true he]; rfl
          have HE := Lib.hid he
          clear he
          go_wp2_with fail
          go_quiet (fail)
          go_wp2_with fail
          go_roundw
          case rel => exact ⟨k + 1, by omega, by go_num, Lib.hid (fun j hj h => by rcases Nat.lt_succ_iff_lt_or_eq.1 h with h | rfl; exact HD.out j hj h; exact HE.out), below_drewN HB.out _⟩
          case measure => simp [intOf]; omega
        · have hne : ∀ W, (binOp .neq 48 (taskV xs[k]) (taskV ys[k])).run Try.prog W = .ok (.bool true) W := fun W => by rw [neTask, decide_eq_false he]; rfl
          have HE := Lib.hid (show decide (xs = ys) = false by rw [decide_eq_false_iff_not, list_eq_iff xs ys HL.out]; exact fun h => he (h k hlt))
          clear he
          go_wp2_with fail
          go_quiet (fail)
          go_wp2_with fail
          go_ret
          exact ⟨ret_bool HE.out.symm, below_drewN HB.out _⟩
      · go_wp2_with fail
        go_ret
        exact ⟨ret_bool (by rw [eq_comm, decide_eq_true_iff, list_eq_iff xs ys HL.out]; exact fun i h => HD.out i h (by omega)), HB.out⟩
  · have e1 : ((xs.length : Int) != (ys.length : Int)) = true := by simp; omega
    have HF := Lib.hid (show decide (xs = ys) = false by simp; rintro rfl; exact hl rfl)
    clear hl
    go_enter Try.func37, Try.ntmps37
    go_wp2_with fail
    go_ret
    exact ⟨ret_bool HF.out.symm, Below.refl _ _⟩
theorem neInstr (x y : Instr) (w : World) : (binOp .neq 54 (instrV x) (instrV y)).run Try.prog w = .ok (.bool (!decide (x = y))) w := by
  obtain ⟨y0, y1⟩ := x
  obtain ⟨z0, z1⟩ := y
  simp [go_sem, Try.underlying54, Try.underlying3]
  repeat' split
  all_goals simp_all
set_option maxRecDepth 100000 in
set_option maxHeartbeats 1000000 in
theorem equalInstr_any (v v' : Value) (xs ys : List Instr) (w : World) (hv : CodeV w v xs) (hv' : CodeV w v' ys) :
    Calls Try.prog 38 #[v, v'] w fun e w' => e = .returned (.bool (decide (xs = ys))) ∧ Below w.heap.size w w' := by
  obtain ⟨a, c, rfl, hv1, hv2, hv3, hv4⟩ := hv
  obtain ⟨a', c', rfl, hw1, hw2, hw3, hw4⟩ := hv'
  have HV := Lib.hid hv4
  have HW := Lib.hid hw4
  clear hv4 hw4
  have hl1 : xs.length ≤ 70368744175616 := by omega
  have hl2 : ys.length ≤ 70368744175616 := by omega
  by_cases hl : xs.length = ys.length
  · have HL := Lib.hid hl
    have e1 : ((xs.length : Int) != (ys.length : Int)) = false := by simp [hl]
    clear hl
    go_enter Try.func38, Try.ntmps38
    go_wp2_with fail
    go_loopw [13] (fun i wr => ∃ (k : Nat), k ≤ xs.length ∧ i = .int .i64 k ∧ Hid (∀ j (hj : j < xs.length), j < k → xs[j] = ys[j]'(HL.out ▸ hj)) ∧ Below w.heap.size w wr) (fun i _ => xs.length - (intOf i).toNat)
    case atStart => exact ⟨0, by omega, rfl, Lib.hid (fun j hj h => by omega), Below.refl _ _⟩
    case round =>
      obtain ⟨k, hk, rfl, HD, hB⟩ := hrel
      have HB := Lib.hid hB
      clear hB
      by_cases hlt : k < xs.length
      · have hlt' : k < ys.length := HL.out ▸ hlt
        obtain ⟨b, off, rfl, hcell⟩ := HV.out (by intro h; rw [h] at hlt; simp at hlt)
        obtain ⟨b', off', rfl, hcell'⟩ := HW.out (by intro h; rw [h] at hlt'; simp at hlt')
        obtain ⟨y0, y1⟩ := InstrAt.ext (Ext.below HB.out) (hcell k hlt)
        obtain ⟨z0, z1⟩ := InstrAt.ext (Ext.below HB.out) (hcell' k hlt')
        unfold IntAt at y0 y1 z0 z1
        clear hcell hcell'
        by_cases he : xs[k] = ys[k]
        · have hne : ∀ W, (binOp .neq 54 (instrV xs[k]) (instrV ys[k])).run Try.prog W = .ok (.bool false) W := fun W => by rw [neInstr, decide_eq_true he]; rfl
          have HE := Lib.hid he
          clear he
          go_wp2_with fail
          go_quiet (fail)
          go_wp2_with fail
          go_roundw
          case rel => exact ⟨k + 1, by omega, by go_num, Lib.hid (fun j hj h => by rcases Nat.lt_succ_iff_lt_or_eq.1 h with h | rfl; exact HD.out j hj h; exact HE.out), below_drewN HB.out _⟩
          case measure => simp [intOf]; omega
        · have hne : ∀ W, (binOp .neq 54 (instrV xs[k]) (instrV ys[k])).run Try.prog W = .ok (.bool true) W := fun W => by rw [neInstr, decide_eq_false he]; rfl
          have HE := Lib.hid (show decide (xs = ys) = false by rw [decide_eq_false_iff_not, list_eq_iff xs ys HL.out]; exact fun h => he (h k hlt))
          clear he
          go_wp2_with fail
          go_quiet (fail)
          go_wp2_with fail
          go_ret
          exact ⟨ret_bool HE.out.symm, below_drewN HB.out _⟩
      · go_wp2_with fail
        go_ret
        exact ⟨ret_bool (by rw [eq_comm, decide_eq_true_iff, list_eq_iff xs ys HL.out]; exact fun i h => HD.out i h (by omega)), HB.out⟩
  · have e1 : ((xs.length : Int) != (ys.length : Int)) = true := by simp; omega
    have HF := Lib.hid (show decide (xs = ys) = false by simp; rintro rfl; exact hl rfl)
    clear hl
    go_enter Try.func38, Try.ntmps38
    go_wp2_with fail
    go_ret
    exact ⟨ret_bool HF.out.symm, Below.refl _ _⟩
theorem neWindow (x y : Window) (w : World) : (binOp .neq 44 (windowV x) (windowV y)).run Try.prog w = .ok (.bool (!decide (x = y))) w := by
  obtain ⟨y0, y1, y2⟩ := x
  obtain ⟨z0, z1, z2⟩ := y
  simp [go_sem, Try.underlying44, Try.underlying3]
  repeat' split
  all_goals simp_all
set_option maxRecDepth 100000 in
set_option maxHeartbeats 1000000 in
theorem equalWindow_any (v v' : Value) (xs ys : List Window) (w : World) (hv : WindowsV w v xs) (hv' : WindowsV w v' ys) :
    Calls Try.prog 19 #[v, v'] w fun e w' => e = .returned (.bool (decide (xs = ys))) ∧ Below w.heap.size w w' := by
  obtain ⟨a, c, rfl, hv1, hv2, hv3, hv4⟩ := hv
  obtain ⟨a', c', rfl, hw1, hw2, hw3, hw4⟩ := hv'
  have HV := Lib.hid hv4
  have HW := Lib.hid hw4
  clear hv4 hw4
  have hl1 : xs.length ≤ 70368744175616 := by omega
  have hl2 : ys.length ≤ 70368744175616 := by omega
  by_cases hl : xs.length = ys.length
  · have HL := Lib.hid hl
    have e1 : ((xs.length : Int) != (ys.length : Int)) = false := by simp [hl]
    clear hl
    go_enter Try.func19, Try.ntmps19
    go_wp2_with fail
    go_loopw [13] (fun i wr => ∃ (k : Nat), k ≤ xs.length ∧ i = .int .i64 k ∧ Hid (∀ j (hj : j < xs.length), j < k → xs[j] = ys[j]'(HL.out ▸ hj)) ∧ Below w.heap.size w wr) (fun i _ => xs.length - (intOf i).toNat)
    case atStart => exact ⟨0, by omega, rfl, Lib.hid (fun j hj h => by omega), Below.refl _ _⟩
    case round =>
      obtain ⟨k, hk, rfl, HD, hB⟩ := hrel
      have HB := Lib.hid hB
      clear hB
      by_cases hlt : k < xs.length
      · have hlt' : k < ys.length := HL.out ▸ hlt
        obtain ⟨b, off, rfl, hcell⟩ := HV.out (by intro h; rw [h] at hlt; simp at hlt)
        obtain ⟨b', off', rfl, hcell'⟩ := HW.out (by intro h; rw [h] at hlt'; simp at hlt')
        obtain ⟨y0, y1, y2⟩ := WindowAt.ext (Ext.below HB.out) (hcell k hlt)
        obtain ⟨z0, z1, z2⟩ := WindowAt.ext (Ext.below HB.out) (hcell' k hlt')
        unfold IntAt at y0 y1 y2 z0 z1 z2
        clear hcell hcell'
        by_cases he : xs[k] = ys[k]
        · have hne : ∀ W, (binOp .neq 44 (windowV xs[k]) (windowV ys[k])).run Try.prog W = .ok (.bool false) W := fun W => by rw [neWindow, decide_eq_true he]; rfl
          have HE := Lib.hid he
          clear he
          go_wp2_with fail
          go_quiet (fail)
          go_wp2_with fail
          go_roundw
          case rel => exact ⟨k + 1, by omega, by go_num, Lib.hid (fun j hj h => by rcases Nat.lt_succ_iff_lt_or_eq.1 h with h | rfl; exact HD.out j hj h; exact HE.out), below_drewN HB.out _⟩
          case measure => simp [intOf]; omega
        · have hne : ∀ W, (binOp .neq 44 (windowV xs[k]) (windowV ys[k])).run Try.prog W = .ok (.bool true) W := fun W => by rw [neWindow, decide_eq_false he]; rfl
          have HE := Lib.hid (show decide (xs = ys) = false by rw [decide_eq_false_iff_not, list_eq_iff xs ys HL.out]; exact fun h => he (h k hlt))
          clear he
          go_wp2_with fail
          go_quiet (fail)
          go_wp2_with fail
          go_ret
          exact ⟨ret_bool HE.out.symm, below_drewN HB.out _⟩
      · go_wp2_with fail
        go_ret
        exact ⟨ret_bool (by rw [eq_comm, decide_eq_true_iff, list_eq_iff xs ys HL.out]; exact fun i h => HD.out i h (by omega)), HB.out⟩
  · have e1 : ((xs.length : Int) != (ys.length : Int)) = true := by simp; omega
    have HF := Lib.hid (show decide (xs = ys) = false by simp; rintro rfl; exact hl rfl)
    clear hl
    go_enter Try.func19, Try.ntmps19
    go_wp2_with fail
    go_ret
    exact ⟨ret_bool HF.out.symm, Below.refl _ _⟩
theorem nePort (x y : Port) (w : World) : (binOp .neq 46 (portV x) (portV y)).run Try.prog w = .ok (.bool (!decide (x = y))) w := by
  obtain ⟨y0, y1, y2, y3⟩ := x
  obtain ⟨z0, z1, z2, z3⟩ := y
  simp [go_sem, Try.underlying46, Try.underlying3]
  repeat' split
  all_goals simp_all
set_option maxRecDepth 100000 in
set_option maxHeartbeats 1000000 in
theorem equalPort_any (v v' : Value) (xs ys : List Port) (w : World) (hv : PortsV w v xs) (hv' : PortsV w v' ys) :
    Calls Try.prog 20 #[v, v'] w fun e w' => e = .returned (.bool (decide (xs = ys))) ∧ Below w.heap.size w w' := by
  obtain ⟨a, c, rfl, hv1, hv2, hv3, hv4⟩ := hv
  obtain ⟨a', c', rfl, hw1, hw2, hw3, hw4⟩ := hv'
  have HV := Lib.hid hv4
  have HW := Lib.hid hw4
  clear hv4 hw4
  have hl1 : xs.length ≤ 70368744175616 := by omega
  have hl2 : ys.length ≤ 70368744175616 := by omega
  by_cases hl : xs.length = ys.length
  · have HL := Lib.hid hl
    have e1 : ((xs.length : Int) != (ys.length : Int)) = false := by simp [hl]
    clear hl
    go_enter Try.func20, Try.ntmps20
    go_wp2_with fail
    go_loopw [13] (fun i wr => ∃ (k : Nat), k ≤ xs.length ∧ i = .int .i64 k ∧ Hid (∀ j (hj : j < xs.length), j < k → xs[j] = ys[j]'(HL.out ▸ hj)) ∧ Below w.heap.size w wr) (fun i _ => xs.length - (intOf i).toNat)
    case atStart => exact ⟨0, by omega, rfl, Lib.hid (fun j hj h => by omega), Below.refl _ _⟩
    case round =>
      obtain ⟨k, hk, rfl, HD, hB⟩ := hrel
      have HB := Lib.hid hB
      clear hB
      by_cases hlt : k < xs.length
      · have hlt' : k < ys.length := HL.out ▸ hlt
        obtain ⟨b, off, rfl, hcell⟩ := HV.out (by intro h; rw [h] at hlt; simp at hlt)
        obtain ⟨b', off', rfl, hcell'⟩ := HW.out (by intro h; rw [h] at hlt'; simp at hlt')
        obtain ⟨y0, y1, y2, y3⟩ := PortAt.ext (Ext.below HB.out) (hcell k hlt)
        obtain ⟨z0, z1, z2, z3⟩ := PortAt.ext (Ext.below HB.out) (hcell' k hlt')
        unfold IntAt at y0 y1 y2 y3 z0 z1 z2 z3
        clear hcell hcell'
        by_cases he : xs[k] = ys[k]
        · have hne : ∀ W, (binOp .neq 46 (portV xs[k]) (portV ys[k])).run Try.prog W = .ok (.bool false) W := fun W => by rw [nePort, decide_eq_true he]; rfl
          have HE := Lib.hid he
          clear he
          go_wp2_with fail
          go_quiet (fail)
          go_wp2_with fail
          go_roundw
          case rel => exact ⟨k + 1, by omega, by go_num, Lib.hid (fun j hj h => by rcases Nat.lt_succ_iff_lt_or_eq.1 h with h | rfl; exact HD.out j hj h; exact HE.out), below_drewN HB.out _⟩
          case measure => simp [intOf]; omega
        · have hne : ∀ W, (binOp .neq 46 (portV xs[k]) (portV ys[k])).run Try.prog W = .ok (.bool true) W := fun W => by rw [nePort, decide_eq_false he]; rfl
          have HE := Lib.hid (show decide (xs = ys) = false by rw [decide_eq_false_iff_not, list_eq_iff xs ys HL.out]; exact fun h => he (h k hlt))
          clear he
          go_wp2_with fail
          go_quiet (fail)
          go_wp2_with fail
          go_ret
          exact ⟨ret_bool HE.out.symm, below_drewN HB.out _⟩
      · go_wp2_with fail
        go_ret
        exact ⟨ret_bool (by rw [eq_comm, decide_eq_true_iff, list_eq_iff xs ys HL.out]; exact fun i h => HD.out i h (by omega)), HB.out⟩
  · have e1 : ((xs.length : Int) != (ys.length : Int)) = true := by simp; omega
    have HF := Lib.hid (show decide (xs = ys) = false by simp; rintro rfl; exact hl rfl)
    clear hl
    go_enter Try.func20, Try.ntmps20
    go_wp2_with fail
    go_ret
    exact ⟨ret_bool HF.out.symm, Below.refl _ _⟩
end Go.Proofs.Ytjhhncahlijohaa
