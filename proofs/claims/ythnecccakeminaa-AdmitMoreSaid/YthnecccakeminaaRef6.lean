/- What the reference answers of a part's least supply: which ticks are its own. -/
import Derived.Test.YthnecccakeminaaRef5
import Derived.Test.YthnecccakeminaaSup2
set_option linter.unusedVariables false
set_option linter.unusedSimpArgs false
namespace Go.Proofs.Ythnecccakeminaa
open Go.RowKit

theorem infoBool : (Try.prog.info? 4).map (fun i => (i.zero, i.size, i.bytes)) = some (some (.bool false), 1, 1) := by kernel_rfl

theorem ownerAt_snoc (t : Int) (x : Window) (l : List Window) (h : ∀ y ∈ l, y.to_ ≤ x.from_) : ownerAt t (l ++ [x]) = if x.from_ ≤ t ∧ t < x.to_ then x.part else ownerAt t l := by
  induction l with
  | nil => rfl
  | cons y r ih =>
    have h1 := h y (by simp)
    have ih := ih (fun z hz => h z (by simp [hz]))
    simp only [List.cons_append, ownerAt]
    rw [ih]
    by_cases c1 : y.from_ ≤ t ∧ t < y.to_
    · rw [if_pos c1, if_pos c1, if_neg (by omega)]
    · rw [if_neg c1, if_neg c1]
theorem winsFrom_sorted (f n : Int) (ws : List Window) : ∀ e, winsFrom f n e ws = true → ∀ k (hk : k < ws.length), ∀ y ∈ ws.take k, y.to_ ≤ ws[k].from_ := by
  induction ws with
  | nil => intro e _ k hk; simp at hk
  | cons x r ih =>
    intro e h k hk y hy
    unfold winsFrom at h
    simp only [Bool.and_eq_true, decide_eq_true_eq] at h
    cases k with
    | zero => simp at hy
    | succ k =>
      have hk' : k < r.length := by simpa using hk
      simp only [List.take_succ_cons, List.mem_cons] at hy
      simp only [List.getElem_cons_succ]
      rcases hy with rfl | hy
      · exact (winsFrom_all _ _ _ _ h.2 r[k] (List.getElem_mem hk')).1
      · exact ih _ h.2 k hk' y hy
theorem ownerAt_take (t : Int) (ws : List Window) (k : Nat) (hk : k < ws.length) (h : ∀ y ∈ ws.take k, y.to_ ≤ ws[k].from_) :
    ownerAt t (ws.take (k + 1)) = if ws[k].from_ ≤ t ∧ t < ws[k].to_ then ws[k].part else ownerAt t (ws.take k) := by
  rw [List.take_succ_eq_append_getElem hk, ownerAt_snoc _ _ _ h]

set_option maxRecDepth 100000 in
set_option maxHeartbeats 1600000 in
theorem refOwns_any (c : Config) (v : Value) (p : Int) (w : World) (hc : CfgV w v c) (hk : checkCfg c = 0) (hp : 0 ≤ p) :
    Calls Try.prog 53 #[v, .int .i64 p] w fun e w' => ∃ q, e = .returned (.slice (some ⟨q, 0, none⟩) c.frame.toNat c.frame.toNat) ∧ w.heap.size ≤ q ∧ ValRow w' q c.frame.toNat (fun s => .bool (decide (ownerAt s c.windows = p))) ∧ Below w.heap.size w w' := by
  obtain ⟨pv, wv, ov, rfl, hcfg⟩ := hc
  have HBX := Lib.hid (balloc w (.cells #[.int .i64 c.frame, .int .i64 c.quiet, pv, wv, ov] 26))
  have hcc := cfg_box w c _ _ _ 26 hcfg
  obtain ⟨wb, hwb⟩ : ∃ wb, wb = w.alloc (.cells #[.int .i64 c.frame, .int .i64 c.quiet, pv, wv, ov] 26) := ⟨_, rfl⟩
  obtain ⟨g, hg⟩ : ∃ g, g = w.heap.size := ⟨_, rfl⟩
  rw [← hwb, ← hg] at hcc
  rw [← hwb] at HBX
  obtain ⟨wa, wcap, rfl, hw1, hw2, hw3, hw4⟩ := hcc.is.windows
  have HW := Lib.hid hw4
  have HC := Lib.hid hcc
  have hok := check_ok hk
  have HO := Lib.hid hok
  obtain ⟨o1, o2, -⟩ := hok
  obtain ⟨F, hF⟩ := Int.eq_ofNat_of_zero_le (show 0 ≤ c.frame by omega)
  have hFt : c.frame.toNat = F := by rw [hF]; rfl
  rw [hFt]
  rw [hF] at o1 o2
  have HF := Lib.hid hF
  have z0 : wb.cell? ⟨g, 0, none⟩ = some (.int .i64 F) := by rw [← hF]; exact HC.out.c0
  have f1 : 1 ≤ F := by omega
  have f2 : F ≤ 256 := by omega
  clear hw4 hcc hcfg hk hF hFt o1 o2
  have hl1 : c.windows.length ≤ 32 := HO.out.2.2.2.2.2.2.1
  have hgl : w.heap.size + 1 ≤ wb.heap.size := by rw [hwb]; simp
  obtain ⟨i0, hi0, hi1, hi2, hi3⟩ := info_parts infoBool
  have HI := Lib.hid (And.intro hi0 (And.intro hi1 (And.intro hi2 hi3)))
  clear hi0 hi1 hi2 hi3
  have hws : (w.alloc (.cells #[.int .i64 c.frame, .int .i64 c.quiet, pv, .slice wa c.windows.length wcap, ov] 26)).heap.size = w.heap.size + 1 := by simp
  have HWS := Lib.hid hws
  clear hws
  go_enter Try.func53, Try.ntmps53
  go_wp2_with (at_make; refine wpList_make_full _ rfl (.tmp 9) (.tmp 9) 81 rfl (w.heap.size + 1) 4 i0 (.bool false) 1 Try.underlying81 HI.out.1 HI.out.2.1 HI.out.2.2.1 .i64 .i64 c.frame c.frame F rfl rfl HF.out HF.out (by rw [HI.out.2.2.2]; omega) (by unfold maxLen; omega) (Nat.le_of_eq HWS.out.symm) ?_)
  intro w1 hown hgrow
  rw [← hwb] at hgrow
  subst hg
  have HR := Lib.hid (ValRow.made (base := w.heap.size + 1) (e := 4) (g := w.heap.size + 1) (n := F) (z := .bool false) (by rw [Nat.mul_one]; exact hown))
  have hwbs : wb.heap.size = w.heap.size + 1 := by rw [hwb]; simp
  clear hwb
  have HB1 : Below wb.heap.size wb w1 := (Below.refl _ _).grown hgrow (Nat.le_refl _) (by simp)
  have HB1 := Lib.hid HB1
  clear hown hgrow HI
  obtain ⟨q, hq⟩ : ∃ q, q = w.heap.size + 1 := ⟨_, rfl⟩
  rw [← hq] at HR ⊢
  have hqw : wb.heap.size ≤ q := by omega
  clear hq z0 hwbs
  go_wp2_with fail
  have Z0 := Lib.hid (show wb.cell? ⟨w.heap.size, 0, none⟩ = some (.int .i64 F) by rw [← HF.out]; exact HC.out.c0)
  go_loopw [6, 7] (fun i _ wr => ∃ (k : Nat), k ≤ c.windows.length ∧ i = .int .i64 k ∧ Hid (ValRow wr q F (fun s => .bool (decide (ownerAt s (c.windows.take k) = p)))) ∧ Below wb.heap.size wb wr) (fun i _ _ => c.windows.length - (intOf i).toNat)
  case atStart => exact ⟨0, by omega, rfl, Lib.hid (HR.out.congr (fun s _ => by simp [ownerAt]; omega)), HB1.out⟩
  case round =>
    obtain ⟨k, hk, rfl, HV, hB⟩ := hrel
    have HB := Lib.hid hB
    have z3 := (HC.out.ext (Ext.below hB)).c3
    clear hB
    by_cases hlt : k < c.windows.length
    · obtain ⟨b, off, rfl, hcell⟩ := HW.out (by intro h; rw [h] at hlt; simp at hlt)
      have HCL := Lib.hid (hcell k hlt)
      obtain ⟨y0, y1, y2⟩ := WindowAt.ext (Ext.below HB.out) HCL.out
      unfold IntAt at y0 y1 y2
      clear hcell
      have hwin := winsFrom_all _ _ _ _ HO.out.2.2.2.2.2.2.2 c.windows[k] (List.getElem_mem hlt)
      have hso := fun t => ownerAt_take t c.windows k hlt (winsFrom_sorted _ _ _ _ HO.out.2.2.2.2.2.2.2 k hlt)
      have HSO := Lib.hid hso
      rw [HF.out] at hwin
      obtain ⟨A, hA⟩ := Int.eq_ofNat_of_zero_le (show 0 ≤ c.windows[k].from_ by omega)
      obtain ⟨Z, hZ⟩ := Int.eq_ofNat_of_zero_le (show 0 ≤ c.windows[k].to_ by omega)
      have HA := Lib.hid hA
      have HZ := Lib.hid hZ
      rw [hA] at y0
      rw [hZ] at y1
      have a1 : A < Z := by omega
      have a2 : Z ≤ F := by omega
      clear hwin hso hA hZ
      go_wp2_with fail
      obtain ⟨wo, rfl⟩ : ∃ wo : World, wo = wr := ⟨_, rfl⟩
      clear y0 y1 y2 z3
      go_loopw [7] (fun j wq => ∃ (m : Nat), A ≤ m ∧ m ≤ Z ∧ j = .int .i64 m ∧ Hid (ValRow wq q F (fun s => .bool (if A ≤ s ∧ s < m then decide (c.windows[k].part = p) else decide (ownerAt s (c.windows.take k) = p)))) ∧ Below wb.heap.size wb wq) (fun j _ => Z - (intOf j).toNat)
      case atStart => exact ⟨A, by omega, by omega, rfl, Lib.hid (HV.out.congr (fun s _ => by rw [if_neg (by omega)])), HB.out⟩
      case round =>
        obtain ⟨m, hm1, hm2, rfl, HV2, hB2⟩ := hrel
        have HB2 := Lib.hid hB2
        have z3 := (HC.out.ext (Ext.below hB2)).c3
        obtain ⟨y0, y1, y2⟩ := WindowAt.ext (Ext.below hB2) HCL.out
        unfold IntAt at y0 y1 y2
        rw [HA.out] at y0
        rw [HZ.out] at y1
        clear hB2
        by_cases hmz : m < Z
        · have hmF : m < F := by omega
          have r0 := HV2.out.cell m hmF
          have r1 := HV2.out.free m
          have hgq : wb.heap.size ≤ q := hqw
          go_wp2_with fail
          go_roundw
          case rel => exact ⟨m + 1, by omega, by omega, by go_num, Lib.hid ((HV2.out.set m _).congr (fun s _ => by
            by_cases e : s = m
            · subst e
              rw [if_pos rfl, if_pos (by omega)]
              exact congrArg Value.bool (by rw [Bool.eq_iff_iff]; simp)
            · rw [if_neg e]
              by_cases e2 : A ≤ s ∧ s < m
              · rw [if_pos e2, if_pos (by omega)]
              · rw [if_neg e2, if_neg (by omega)])), HB2.out.setCell (p := ⟨q, m, none⟩) hqw _⟩
          case measure => simp [intOf]; omega
        · obtain rfl : m = Z := by omega
          go_wp2_with fail
          go_roundw
          case rel => exact ⟨k + 1, by omega, by go_num, Lib.hid (HV2.out.congr (fun s _ => by
            rw [HSO.out, HA.out, HZ.out]
            by_cases e : A ≤ s ∧ s < m
            · rw [if_pos e, if_pos (by omega)]
            · rw [if_neg e, if_neg (by omega)])), HB2.out⟩
          case measure => simp [intOf]; omega
    · obtain rfl : k = c.windows.length := by omega
      rw [List.take_length] at HV
      go_wp2_with fail
      go_ret
      exact ⟨q, rfl, by have := hgl; omega, HV.out, bthen HBX.out HB.out⟩
end Go.Proofs.Ythnecccakeminaa
