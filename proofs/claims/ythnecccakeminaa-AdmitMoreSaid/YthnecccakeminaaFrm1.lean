/- What the functions of package frame answer: Owner, At, Share. -/
import Derived.Test.YthnecccakeminaaChk7
set_option linter.unusedVariables false
set_option linter.unusedSimpArgs false
namespace Go.Proofs.Ythnecccakeminaa
open Go.RowKit

theorem ret_pair {k l : IntKind} {p : Int × Int} {x y : Int} (h : p = (x, y)) : Ending.returned (.tuple #[.int k x, .int l y]) = .returned (.tuple #[.int k p.1, .int l p.2]) := by rw [h]
theorem ownerAt_step (t : Int) (ws : List Window) (k : Nat) (h : k < ws.length) :
    ownerAt t (ws.drop k) = if ws[k].from_ ≤ t ∧ t < ws[k].to_ then ws[k].part else ownerAt t (ws.drop (k + 1)) := by
  rw [List.drop_eq_getElem_cons h]
  rfl
theorem shareOf_step (p : Int) (ws : List Window) (k : Nat) (h : k < ws.length) :
    shareOf p (ws.drop k) = (if ws[k].part = p then ws[k].to_ - ws[k].from_ else 0) + shareOf p (ws.drop (k + 1)) := by
  rw [List.drop_eq_getElem_cons h]
  rfl

set_option maxRecDepth 100000 in
set_option maxHeartbeats 400000 in
theorem owner_any (g : Nat) (wv : Value) (ws : List Window) (t : Int) (w : World) (h3 : w.cell? ⟨g, 3, none⟩ = some wv) (hw : WindowsV w wv ws) :
    Calls Try.prog 62 #[.pointer (some ⟨g, 0, none⟩), .int .i64 t] w fun e w' => e = .returned (.int .i64 (ownerAt t ws)) ∧ Below w.heap.size w w' := by
  obtain ⟨a, c, rfl, hv1, hv2, hv3, hv4⟩ := hw
  have HV := Lib.hid hv4
  clear hv4
  have hl1 : ws.length ≤ 1000000000000000 := by omega
  go_enter Try.func62, Try.ntmps62
  go_wp2_with fail
  go_loopw [6, 12] (fun _ i wr => ∃ (k : Nat), k ≤ ws.length ∧ i = .int .i64 k ∧ Hid (ownerAt t ws = ownerAt t (ws.drop k)) ∧ Below w.heap.size w wr) (fun _ i _ => ws.length - (intOf i).toNat)
  case atStart => exact ⟨0, by omega, rfl, Lib.hid (by simp), Below.refl _ _⟩
  case round =>
    obtain ⟨k, hk, rfl, HD, hB⟩ := hrel
    have HB := Lib.hid hB
    clear hB h3
    by_cases hlt : k < ws.length
    · obtain ⟨b, off, rfl, hcell⟩ := HV.out (by intro h; rw [h] at hlt; simp at hlt)
      obtain ⟨y0, y1, y2⟩ := WindowAt.ext (Ext.below HB.out) (hcell k hlt)
      unfold IntAt at y0 y1 y2
      clear hcell
      have hstep := ownerAt_step t ws k hlt
      rw [← HD.out] at hstep
      have HS := Lib.hid hstep
      clear hstep HD
      go_wp2_with fail
      all_goals first
        | (go_ret
           exact ⟨ret_int (by rw [HS.out, if_pos (by omega)]), bthen HB.out (balloc _ _)⟩)
        | (go_roundw
           case rel => exact ⟨k + 1, by omega, by go_num, Lib.hid (by rw [HS.out, if_neg (by omega)]), bthen HB.out (balloc _ _)⟩
           case measure => simp [intOf]; omega)
    · have hfin : ownerAt t ws = -1 := by
        rw [HD.out, List.drop_of_length_le (by omega)]; rfl
      have HF := Lib.hid hfin
      clear hfin HD
      go_wp2_with fail
      go_ret
      exact ⟨ret_int HF.out.symm, HB.out⟩

theorem winsFrom_all (f n : Int) (ws : List Window) : ∀ (e : Int), winsFrom f n e ws = true → ∀ x ∈ ws, e ≤ x.from_ ∧ x.from_ < x.to_ ∧ x.to_ ≤ f ∧ 0 ≤ x.part ∧ x.part < n := by
  induction ws with
  | nil => intro e _ x hx; simp at hx
  | cons y r ih =>
    intro e h x hx
    unfold winsFrom at h
    simp only [Bool.and_eq_true, decide_eq_true_eq] at h
    rcases List.mem_cons.1 hx with rfl | hx
    · exact h.1
    · have := ih _ h.2 x hx
      omega
theorem check_ok {c : Config} (h : checkCfg c = 0) : 1 ≤ c.frame ∧ c.frame ≤ 256 ∧ 1 ≤ c.quiet ∧ c.quiet ≤ 16 ∧ 1 ≤ c.parts.length ∧ c.parts.length ≤ 8 ∧ c.windows.length ≤ 32 ∧ winsFrom c.frame c.parts.length 0 c.windows = true := by
  unfold checkCfg at h
  split at h
  · omega
  split at h
  · omega
  split at h
  · omega
  split at h
  · omega
  rename_i h1 h2 h3 h4
  have h4 : windowsMay c = true := by simpa using h4
  unfold windowsMay at h4
  simp only [Bool.and_eq_true, decide_eq_true_eq] at h4
  refine ⟨by omega, by omega, by omega, by omega, by omega, by omega, h4.2, h4.1⟩


set_option maxRecDepth 100000 in
set_option maxHeartbeats 1000000 in
theorem share_any (c : Config) (v : Value) (p : Int) (w : World) (hc : CfgV w v c) :
    Calls Try.prog 28 #[v, .int .i64 p] w fun e w' => e = .returned (.tuple #[.int .i64 (shareSpec c p).1, .int .i64 (shareSpec c p).2]) ∧ Below w.heap.size w w' := by
  obtain ⟨pv, wv, ov, rfl, hcfg⟩ := hc
  have HC := Lib.hid hcfg
  obtain ⟨pa, pcap, rfl, hp1, hp2, hp3, hp4⟩ := hcfg.parts
  obtain ⟨wa, wcap, rfl, hw1, hw2, hw3, hw4⟩ := hcfg.windows
  have HW := Lib.hid hw4
  clear hp4 hw4 hcfg
  have hl1 : c.windows.length ≤ 1000000000000000 := by omega
  go_enter Try.func28, Try.ntmps28
  go_wp2_with fail
  refine (check_any c _ _ ⟨_, _, ov, rfl, HC.out.ext (Ext.alloc _ _)⟩).mono ?_
  rintro e w1 ⟨rfl, hb1⟩
  have hbox := (cfg_box w c _ _ _ 26 HC.out).ext (Ext.below hb1)
  have HB1 := Lib.hid (bthen (balloc _ _) hb1)
  have z2 := hbox.c2
  have z3 := hbox.c3
  clear hb1 hbox
  by_cases hk : checkCfg c = 0
  · have HO := Lib.hid (check_ok hk)
    have e1 : (checkCfg c != 0) = false := by rw [hk]; rfl
    by_cases hp : p < 0 ∨ p ≥ c.parts.length
    · have HS : Hid (shareSpec c p = (0, 600)) := Lib.hid (by unfold shareSpec; rw [if_pos (Or.inr hp)])
      have HP := Lib.hid hp
      clear hk hp
      go_wp2_with fail
      all_goals first
        | (go_ret2; exact ⟨ret_pair HS.out, HB1.out⟩)
        | (exfalso; have := HP.out; omega)
    · have HS : Hid (shareSpec c p = (shareOf p c.windows, 0)) := Lib.hid (by unfold shareSpec; rw [if_neg (by omega)])
      have p0 : 0 ≤ p := by omega
      have p1 : p < c.parts.length := by omega
      clear hk hp
      go_wp2_with fail
      obtain ⟨wo, rfl⟩ : ∃ wo : World, wo = w1 := ⟨_, rfl⟩
      go_loopw [6, 8, 26] (fun o _ i wr => ∃ (k : Nat) (ov : Int), k ≤ c.windows.length ∧ i = .int .i64 k ∧ o = .int .i64 ov ∧ 0 ≤ ov ∧ ov ≤ 256 * k ∧ Hid (shareOf p c.windows = ov + shareOf p (c.windows.drop k)) ∧ Below w.heap.size w wr) (fun _ _ i _ => c.windows.length - (intOf i).toNat)
      case atStart => exact ⟨0, 0, by omega, rfl, rfl, by omega, by omega, Lib.hid (by simp), HB1.out⟩
      case round =>
        obtain ⟨k, ov, hk, rfl, rfl, ho1, ho2, HD, hB⟩ := hrel
        have HB := Lib.hid hB
        clear hB
        by_cases hlt : k < c.windows.length
        · obtain ⟨b, off, rfl, hcell⟩ := HW.out (by intro h; rw [h] at hlt; simp at hlt)
          obtain ⟨y0, y1, y2⟩ := WindowAt.ext (Ext.below HB.out) (hcell k hlt)
          unfold IntAt at y0 y1 y2
          clear hcell
          have hstep := shareOf_step p c.windows k hlt
          have HS2 := Lib.hid hstep
          have hwin := winsFrom_all _ _ _ _ HO.out.2.2.2.2.2.2.2 c.windows[k] (List.getElem_mem hlt)
          have hfr := HO.out.2.1
          have b0 : 0 ≤ c.windows[k].from_ := by omega
          have b1 : c.windows[k].from_ < c.windows[k].to_ := by omega
          have b2 : c.windows[k].to_ ≤ 256 := by omega
          have hk32 : k < 32 := by have := HO.out.2.2.2.2.2.2.1; omega
          clear hstep hwin hfr
          go_wp2_with fail
          all_goals
            go_roundw
            case rel => first
              | exact ⟨k + 1, _, by omega, by go_num, rfl, by omega, by omega, Lib.hid (by rw [HD.out, HS2.out, if_pos (by simp_all)]; omega), bthen HB.out (balloc _ _)⟩
              | exact ⟨k + 1, _, by omega, by go_num, rfl, by omega, by omega, Lib.hid (by rw [HD.out, HS2.out, if_neg (by simp_all)]; omega), bthen HB.out (balloc _ _)⟩
            case measure => simp [intOf]; omega
        · have hfin : shareOf p c.windows = ov := by
            rw [HD.out, List.drop_of_length_le (by omega)]; simp [shareOf]
          have HF := Lib.hid hfin
          clear hfin HD
          go_wp2_with fail
          go_ret2
          exact ⟨ret_pair (by rw [HS.out, HF.out]), HB.out⟩
  · have HS : Hid (shareSpec c p = (0, 600)) := Lib.hid (by unfold shareSpec; rw [if_pos (Or.inl hk)])
    have e1 : (checkCfg c != 0) = true := by simpa using hk
    clear hk
    go_wp2_with fail
    go_ret2
    exact ⟨ret_pair HS.out, HB1.out⟩
end Go.Proofs.Ythnecccakeminaa
