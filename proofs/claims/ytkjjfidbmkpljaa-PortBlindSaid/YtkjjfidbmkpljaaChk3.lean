/- What the functions under config.Check answer: closures over tasks. -/
import Derived.Test.YtkjjfidbmkpljaaChk1
set_option linter.unusedVariables false
set_option linter.unusedSimpArgs false
namespace Go.Proofs.Ytkjjfidbmkpljaa
open Go.RowKit

def findI {α : Type} (p : α → Bool) (xs : List α) : Int := if xs.any p then (xs.findIdx p : Int) else -1
theorem findI_at {α : Type} (p : α → Bool) (xs : List α) (k : Nat) (h : k < xs.length) (hp : p xs[k] = true) (hn : ∀ j (hj : j < xs.length), j < k → p xs[j] = false) : findI p xs = k := by
  unfold findI
  rw [if_pos (List.any_eq_true.2 ⟨xs[k], List.getElem_mem h, hp⟩)]
  have : xs.findIdx p = k := by
    rw [List.findIdx_eq h]
    exact ⟨hp, fun j hj => hn j (by omega) hj⟩
  rw [this]
theorem findI_none {α : Type} (p : α → Bool) (xs : List α) (hn : ∀ j (hj : j < xs.length), p xs[j] = false) : findI p xs = -1 := by
  unfold findI
  rw [if_neg]
  intro h
  obtain ⟨x, hx, hp⟩ := List.any_eq_true.1 h
  obtain ⟨j, hj, rfl⟩ := List.getElem_of_mem hx
  rw [hn j hj] at hp
  exact Bool.noConfusion hp
theorem findI_any {α : Type} (p : α → Bool) (xs : List α) : decide (0 ≤ findI p xs) = xs.any p := by
  unfold findI
  split
  · rename_i h; rw [h]; simp
  · rename_i h; simp only [Bool.not_eq_true] at h; rw [h]; rfl
set_option maxRecDepth 100000 in
set_option maxHeartbeats 400000 in
theorem indexTask_any (cap : Value) (v : Value) (xs : List Task) (p : Task → Bool) (w : World) (hv : TasksV w v xs)
    (hf : ∀ i (h : i < xs.length)  (W : World), Below w.heap.size w W →  Calls Try.prog 59 #[taskV xs[i], cap] W fun e w' => e = .returned (.bool (p xs[i])) ∧ Below W.heap.size W w') :
    Calls Try.prog 69 #[v, .func (.func 59) #[] #[cap]] w fun e w' => e = .returned (.int .i64 (findI p xs)) ∧ Below w.heap.size w w' := by
  obtain ⟨a, c, rfl, hv1, hv2, hv3, hv4⟩ := hv
  have HF := Lib.hid hf
  have HV := Lib.hid hv4
  clear hf hv4
  have hl1 : xs.length ≤ 1000000000000000 := by omega
  go_enter Try.func69, Try.ntmps69
  go_wp2_with fail
  go_loopw [5, 8] (fun _ i wr => ∃ (k : Nat), k ≤ xs.length ∧ i = .int .i64 k ∧ Hid (∀ j (hj : j < xs.length), j < k → p xs[j] = false) ∧ Below w.heap.size w wr) (fun _ i _ => xs.length - (intOf i).toNat)
  case atStart => exact ⟨0, by omega, rfl, Lib.hid (fun j hj h => by omega), Below.refl _ _⟩
  case round =>
    obtain ⟨k, hk, rfl, HD, hB⟩ := hrel
    have HB := Lib.hid hB
    clear hB
    by_cases hlt : k < xs.length
    · obtain ⟨b, off, rfl, hcell⟩ := HV.out (by intro h; rw [h] at hlt; simp at hlt)
      obtain ⟨y0, y1, y2, y3, y4, y5⟩ := TaskAt.ext (Ext.below HB.out) (hcell k hlt)
      unfold IntAt at y0 y1 y2 y3 y4 y5
      clear hcell
      by_cases hp : p xs[k] = true
      · have HP := Lib.hid hp
        clear hp
        go_wp2_with fail
        refine (HF.out k hlt _ HB.out).mono ?_
        rw [HP.out]
        rintro e w1 ⟨rfl, hb⟩
        go_wp2_with fail
        go_ret
        exact ⟨ret_int (findI_at p xs k hlt HP.out HD.out).symm, bthen HB.out hb⟩
      · have hp : p xs[k] = false := by simpa using hp
        have HP := Lib.hid hp
        clear hp
        go_wp2_with fail
        refine (HF.out k hlt _ HB.out).mono ?_
        rw [HP.out]
        rintro e w1 ⟨rfl, hb⟩
        go_wp2_with fail
        go_roundw
        case rel => exact ⟨k + 1, by omega, by go_num, Lib.hid (fun j hj h => by rcases Nat.lt_succ_iff_lt_or_eq.1 h with h | rfl; exact HD.out j hj h; exact HP.out), bthen HB.out hb⟩
        case measure => simp [intOf]; omega
    · go_wp2_with fail
      go_ret
      exact ⟨ret_int (findI_none p xs (fun j hj => HD.out j hj (by omega))).symm, HB.out⟩
set_option maxRecDepth 100000 in
set_option maxHeartbeats 400000 in
theorem containsTask_any (cap : Value) (v : Value) (xs : List Task) (p : Task → Bool) (w : World) (hv : TasksV w v xs)
    (hf : ∀ i (h : i < xs.length)  (W : World), Below w.heap.size w W →  Calls Try.prog 59 #[taskV xs[i], cap] W fun e w' => e = .returned (.bool (p xs[i])) ∧ Below W.heap.size W w') :
    Calls Try.prog 61 #[v, .func (.func 59) #[] #[cap]] w fun e w' => e = .returned (.bool (xs.any p)) ∧ Below w.heap.size w w' := by
  have HI := Lib.hid (indexTask_any cap v xs p w hv hf)
  clear hf
  go_enter Try.func61, Try.ntmps61
  go_wp2_with fail
  refine HI.out.mono ?_
  rintro e w1 ⟨rfl, hb⟩
  go_wp2_with fail
  go_ret
  exact ⟨ret_bool (findI_any p xs), hb⟩
set_option maxRecDepth 100000 in
set_option maxHeartbeats 400000 in
theorem indexPort_any (cap : Value) (v : Value) (xs : List Port) (p : Port → Bool) (w : World) (hv : PortsV w v xs)
    (hf : ∀ i (h : i < xs.length)  (W : World), Below w.heap.size w W →  Calls Try.prog 47 #[portV xs[i], cap] W fun e w' => e = .returned (.bool (p xs[i])) ∧ Below W.heap.size W w') :
    Calls Try.prog 65 #[v, .func (.func 47) #[] #[cap]] w fun e w' => e = .returned (.int .i64 (findI p xs)) ∧ Below w.heap.size w w' := by
  obtain ⟨a, c, rfl, hv1, hv2, hv3, hv4⟩ := hv
  have HF := Lib.hid hf
  have HV := Lib.hid hv4
  clear hf hv4
  have hl1 : xs.length ≤ 1000000000000000 := by omega
  go_enter Try.func65, Try.ntmps65
  go_wp2_with fail
  go_loopw [5, 8] (fun _ i wr => ∃ (k : Nat), k ≤ xs.length ∧ i = .int .i64 k ∧ Hid (∀ j (hj : j < xs.length), j < k → p xs[j] = false) ∧ Below w.heap.size w wr) (fun _ i _ => xs.length - (intOf i).toNat)
  case atStart => exact ⟨0, by omega, rfl, Lib.hid (fun j hj h => by omega), Below.refl _ _⟩
  case round =>
    obtain ⟨k, hk, rfl, HD, hB⟩ := hrel
    have HB := Lib.hid hB
    clear hB
    by_cases hlt : k < xs.length
    · obtain ⟨b, off, rfl, hcell⟩ := HV.out (by intro h; rw [h] at hlt; simp at hlt)
      obtain ⟨y0, y1, y2, y3⟩ := PortAt.ext (Ext.below HB.out) (hcell k hlt)
      unfold IntAt at y0 y1 y2 y3
      clear hcell
      by_cases hp : p xs[k] = true
      · have HP := Lib.hid hp
        clear hp
        go_wp2_with fail
        refine (HF.out k hlt _ HB.out).mono ?_
        rw [HP.out]
        rintro e w1 ⟨rfl, hb⟩
        go_wp2_with fail
        go_ret
        exact ⟨ret_int (findI_at p xs k hlt HP.out HD.out).symm, bthen HB.out hb⟩
      · have hp : p xs[k] = false := by simpa using hp
        have HP := Lib.hid hp
        clear hp
        go_wp2_with fail
        refine (HF.out k hlt _ HB.out).mono ?_
        rw [HP.out]
        rintro e w1 ⟨rfl, hb⟩
        go_wp2_with fail
        go_roundw
        case rel => exact ⟨k + 1, by omega, by go_num, Lib.hid (fun j hj h => by rcases Nat.lt_succ_iff_lt_or_eq.1 h with h | rfl; exact HD.out j hj h; exact HP.out), bthen HB.out hb⟩
        case measure => simp [intOf]; omega
    · go_wp2_with fail
      go_ret
      exact ⟨ret_int (findI_none p xs (fun j hj => HD.out j hj (by omega))).symm, HB.out⟩
set_option maxRecDepth 100000 in
set_option maxHeartbeats 400000 in
theorem containsPort_any (cap : Value) (v : Value) (xs : List Port) (p : Port → Bool) (w : World) (hv : PortsV w v xs)
    (hf : ∀ i (h : i < xs.length)  (W : World), Below w.heap.size w W →  Calls Try.prog 47 #[portV xs[i], cap] W fun e w' => e = .returned (.bool (p xs[i])) ∧ Below W.heap.size W w') :
    Calls Try.prog 51 #[v, .func (.func 47) #[] #[cap]] w fun e w' => e = .returned (.bool (xs.any p)) ∧ Below w.heap.size w w' := by
  have HI := Lib.hid (indexPort_any cap v xs p w hv hf)
  clear hf
  go_enter Try.func51, Try.ntmps51
  go_wp2_with fail
  refine HI.out.mono ?_
  rintro e w1 ⟨rfl, hb⟩
  go_wp2_with fail
  go_ret
  exact ⟨ret_bool (findI_any p xs), hb⟩
set_option maxRecDepth 100000 in
set_option maxHeartbeats 400000 in
theorem indexPartA_any  (v : Value) (xs : List Part) (p : Part → Bool) (w : World) (hv : PartsV w v xs)
    (hf : ∀ i (h : i < xs.length) (tv cv : Value) (W : World), Below w.heap.size w W → PartIs W tv cv xs[i] → Calls Try.prog 41 #[.agg #[.int .i64 xs[i].level, tv, cv]] W fun e w' => e = .returned (.bool (p xs[i])) ∧ Below W.heap.size W w') :
    Calls Try.prog 64 #[v, .func (.func 41) #[] #[]] w fun e w' => e = .returned (.int .i64 (findI p xs)) ∧ Below w.heap.size w w' := by
  obtain ⟨a, c, rfl, hv1, hv2, hv3, hv4⟩ := hv
  have HF := Lib.hid hf
  have HV := Lib.hid hv4
  clear hf hv4
  have hl1 : xs.length ≤ 1000000000000000 := by omega
  go_enter Try.func64, Try.ntmps64
  go_wp2_with fail
  go_loopw [5, 8] (fun _ i wr => ∃ (k : Nat), k ≤ xs.length ∧ i = .int .i64 k ∧ Hid (∀ j (hj : j < xs.length), j < k → p xs[j] = false) ∧ Below w.heap.size w wr) (fun _ i _ => xs.length - (intOf i).toNat)
  case atStart => exact ⟨0, by omega, rfl, Lib.hid (fun j hj h => by omega), Below.refl _ _⟩
  case round =>
    obtain ⟨k, hk, rfl, HD, hB⟩ := hrel
    have HB := Lib.hid hB
    clear hB
    by_cases hlt : k < xs.length
    · obtain ⟨b, off, rfl, hcell⟩ := HV.out (by intro h; rw [h] at hlt; simp at hlt)
      obtain ⟨y0, tv, cv, y1, y2, hpi⟩ := PartAt.ext (Ext.below HB.out) (hcell k hlt)
      unfold IntAt at y0
      clear hcell
      by_cases hp : p xs[k] = true
      · have HP := Lib.hid hp
        clear hp
        go_wp2_with fail
        refine (HF.out k hlt tv cv _ HB.out hpi).mono ?_
        rw [HP.out]
        rintro e w1 ⟨rfl, hb⟩
        go_wp2_with fail
        go_ret
        exact ⟨ret_int (findI_at p xs k hlt HP.out HD.out).symm, bthen HB.out hb⟩
      · have hp : p xs[k] = false := by simpa using hp
        have HP := Lib.hid hp
        clear hp
        go_wp2_with fail
        refine (HF.out k hlt tv cv _ HB.out hpi).mono ?_
        rw [HP.out]
        rintro e w1 ⟨rfl, hb⟩
        go_wp2_with fail
        go_roundw
        case rel => exact ⟨k + 1, by omega, by go_num, Lib.hid (fun j hj h => by rcases Nat.lt_succ_iff_lt_or_eq.1 h with h | rfl; exact HD.out j hj h; exact HP.out), bthen HB.out hb⟩
        case measure => simp [intOf]; omega
    · go_wp2_with fail
      go_ret
      exact ⟨ret_int (findI_none p xs (fun j hj => HD.out j hj (by omega))).symm, HB.out⟩
set_option maxRecDepth 100000 in
set_option maxHeartbeats 400000 in
theorem containsPartA_any  (v : Value) (xs : List Part) (p : Part → Bool) (w : World) (hv : PartsV w v xs)
    (hf : ∀ i (h : i < xs.length) (tv cv : Value) (W : World), Below w.heap.size w W → PartIs W tv cv xs[i] → Calls Try.prog 41 #[.agg #[.int .i64 xs[i].level, tv, cv]] W fun e w' => e = .returned (.bool (p xs[i])) ∧ Below W.heap.size W w') :
    Calls Try.prog 49 #[v, .func (.func 41) #[] #[]] w fun e w' => e = .returned (.bool (xs.any p)) ∧ Below w.heap.size w w' := by
  have HI := Lib.hid (indexPartA_any  v xs p w hv hf)
  clear hf
  go_enter Try.func49, Try.ntmps49
  go_wp2_with fail
  refine HI.out.mono ?_
  rintro e w1 ⟨rfl, hb⟩
  go_wp2_with fail
  go_ret
  exact ⟨ret_bool (findI_any p xs), hb⟩
set_option maxRecDepth 100000 in
set_option maxHeartbeats 400000 in
theorem indexPartB_any  (v : Value) (xs : List Part) (p : Part → Bool) (w : World) (hv : PartsV w v xs)
    (hf : ∀ i (h : i < xs.length) (tv cv : Value) (W : World), Below w.heap.size w W → PartIs W tv cv xs[i] → Calls Try.prog 43 #[.agg #[.int .i64 xs[i].level, tv, cv]] W fun e w' => e = .returned (.bool (p xs[i])) ∧ Below W.heap.size W w') :
    Calls Try.prog 64 #[v, .func (.func 43) #[] #[]] w fun e w' => e = .returned (.int .i64 (findI p xs)) ∧ Below w.heap.size w w' := by
  obtain ⟨a, c, rfl, hv1, hv2, hv3, hv4⟩ := hv
  have HF := Lib.hid hf
  have HV := Lib.hid hv4
  clear hf hv4
  have hl1 : xs.length ≤ 1000000000000000 := by omega
  go_enter Try.func64, Try.ntmps64
  go_wp2_with fail
  go_loopw [5, 8] (fun _ i wr => ∃ (k : Nat), k ≤ xs.length ∧ i = .int .i64 k ∧ Hid (∀ j (hj : j < xs.length), j < k → p xs[j] = false) ∧ Below w.heap.size w wr) (fun _ i _ => xs.length - (intOf i).toNat)
  case atStart => exact ⟨0, by omega, rfl, Lib.hid (fun j hj h => by omega), Below.refl _ _⟩
  case round =>
    obtain ⟨k, hk, rfl, HD, hB⟩ := hrel
    have HB := Lib.hid hB
    clear hB
    by_cases hlt : k < xs.length
    · obtain ⟨b, off, rfl, hcell⟩ := HV.out (by intro h; rw [h] at hlt; simp at hlt)
      obtain ⟨y0, tv, cv, y1, y2, hpi⟩ := PartAt.ext (Ext.below HB.out) (hcell k hlt)
      unfold IntAt at y0
      clear hcell
      by_cases hp : p xs[k] = true
      · have HP := Lib.hid hp
        clear hp
        go_wp2_with fail
        refine (HF.out k hlt tv cv _ HB.out hpi).mono ?_
        rw [HP.out]
        rintro e w1 ⟨rfl, hb⟩
        go_wp2_with fail
        go_ret
        exact ⟨ret_int (findI_at p xs k hlt HP.out HD.out).symm, bthen HB.out hb⟩
      · have hp : p xs[k] = false := by simpa using hp
        have HP := Lib.hid hp
        clear hp
        go_wp2_with fail
        refine (HF.out k hlt tv cv _ HB.out hpi).mono ?_
        rw [HP.out]
        rintro e w1 ⟨rfl, hb⟩
        go_wp2_with fail
        go_roundw
        case rel => exact ⟨k + 1, by omega, by go_num, Lib.hid (fun j hj h => by rcases Nat.lt_succ_iff_lt_or_eq.1 h with h | rfl; exact HD.out j hj h; exact HP.out), bthen HB.out hb⟩
        case measure => simp [intOf]; omega
    · go_wp2_with fail
      go_ret
      exact ⟨ret_int (findI_none p xs (fun j hj => HD.out j hj (by omega))).symm, HB.out⟩
set_option maxRecDepth 100000 in
set_option maxHeartbeats 400000 in
theorem containsPartB_any  (v : Value) (xs : List Part) (p : Part → Bool) (w : World) (hv : PartsV w v xs)
    (hf : ∀ i (h : i < xs.length) (tv cv : Value) (W : World), Below w.heap.size w W → PartIs W tv cv xs[i] → Calls Try.prog 43 #[.agg #[.int .i64 xs[i].level, tv, cv]] W fun e w' => e = .returned (.bool (p xs[i])) ∧ Below W.heap.size W w') :
    Calls Try.prog 49 #[v, .func (.func 43) #[] #[]] w fun e w' => e = .returned (.bool (xs.any p)) ∧ Below w.heap.size w w' := by
  have HI := Lib.hid (indexPartB_any  v xs p w hv hf)
  clear hf
  go_enter Try.func49, Try.ntmps49
  go_wp2_with fail
  refine HI.out.mono ?_
  rintro e w1 ⟨rfl, hb⟩
  go_wp2_with fail
  go_ret
  exact ⟨ret_bool (findI_any p xs), hb⟩
set_option maxRecDepth 100000 in
set_option maxHeartbeats 400000 in
theorem indexPartC_any  (v : Value) (xs : List Part) (p : Part → Bool) (w : World) (hv : PartsV w v xs)
    (hf : ∀ i (h : i < xs.length) (tv cv : Value) (W : World), Below w.heap.size w W → PartIs W tv cv xs[i] → Calls Try.prog 45 #[.agg #[.int .i64 xs[i].level, tv, cv]] W fun e w' => e = .returned (.bool (p xs[i])) ∧ Below W.heap.size W w') :
    Calls Try.prog 64 #[v, .func (.func 45) #[] #[]] w fun e w' => e = .returned (.int .i64 (findI p xs)) ∧ Below w.heap.size w w' := by
  obtain ⟨a, c, rfl, hv1, hv2, hv3, hv4⟩ := hv
  have HF := Lib.hid hf
  have HV := Lib.hid hv4
  clear hf hv4
  have hl1 : xs.length ≤ 1000000000000000 := by omega
  go_enter Try.func64, Try.ntmps64
  go_wp2_with fail
  go_loopw [5, 8] (fun _ i wr => ∃ (k : Nat), k ≤ xs.length ∧ i = .int .i64 k ∧ Hid (∀ j (hj : j < xs.length), j < k → p xs[j] = false) ∧ Below w.heap.size w wr) (fun _ i _ => xs.length - (intOf i).toNat)
  case atStart => exact ⟨0, by omega, rfl, Lib.hid (fun j hj h => by omega), Below.refl _ _⟩
  case round =>
    obtain ⟨k, hk, rfl, HD, hB⟩ := hrel
    have HB := Lib.hid hB
    clear hB
    by_cases hlt : k < xs.length
    · obtain ⟨b, off, rfl, hcell⟩ := HV.out (by intro h; rw [h] at hlt; simp at hlt)
      obtain ⟨y0, tv, cv, y1, y2, hpi⟩ := PartAt.ext (Ext.below HB.out) (hcell k hlt)
      unfold IntAt at y0
      clear hcell
      by_cases hp : p xs[k] = true
      · have HP := Lib.hid hp
        clear hp
        go_wp2_with fail
        refine (HF.out k hlt tv cv _ HB.out hpi).mono ?_
        rw [HP.out]
        rintro e w1 ⟨rfl, hb⟩
        go_wp2_with fail
        go_ret
        exact ⟨ret_int (findI_at p xs k hlt HP.out HD.out).symm, bthen HB.out hb⟩
      · have hp : p xs[k] = false := by simpa using hp
        have HP := Lib.hid hp
        clear hp
        go_wp2_with fail
        refine (HF.out k hlt tv cv _ HB.out hpi).mono ?_
        rw [HP.out]
        rintro e w1 ⟨rfl, hb⟩
        go_wp2_with fail
        go_roundw
        case rel => exact ⟨k + 1, by omega, by go_num, Lib.hid (fun j hj h => by rcases Nat.lt_succ_iff_lt_or_eq.1 h with h | rfl; exact HD.out j hj h; exact HP.out), bthen HB.out hb⟩
        case measure => simp [intOf]; omega
    · go_wp2_with fail
      go_ret
      exact ⟨ret_int (findI_none p xs (fun j hj => HD.out j hj (by omega))).symm, HB.out⟩
set_option maxRecDepth 100000 in
set_option maxHeartbeats 400000 in
theorem containsPartC_any  (v : Value) (xs : List Part) (p : Part → Bool) (w : World) (hv : PartsV w v xs)
    (hf : ∀ i (h : i < xs.length) (tv cv : Value) (W : World), Below w.heap.size w W → PartIs W tv cv xs[i] → Calls Try.prog 45 #[.agg #[.int .i64 xs[i].level, tv, cv]] W fun e w' => e = .returned (.bool (p xs[i])) ∧ Below W.heap.size W w') :
    Calls Try.prog 49 #[v, .func (.func 45) #[] #[]] w fun e w' => e = .returned (.bool (xs.any p)) ∧ Below w.heap.size w w' := by
  have HI := Lib.hid (indexPartC_any  v xs p w hv hf)
  clear hf
  go_enter Try.func49, Try.ntmps49
  go_wp2_with fail
  refine HI.out.mono ?_
  rintro e w1 ⟨rfl, hb⟩
  go_wp2_with fail
  go_ret
  exact ⟨ret_bool (findI_any p xs), hb⟩
end Go.Proofs.Ytkjjfidbmkpljaa
