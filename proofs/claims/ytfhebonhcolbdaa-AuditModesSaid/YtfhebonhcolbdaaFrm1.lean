/- What the functions of package frame answer: Owner, At, Share. -/
import Derived.Test.YtfhebonhcolbdaaChk7
set_option linter.unusedVariables false
set_option linter.unusedSimpArgs false
namespace Go.Proofs.Ytfhebonhcolbdaa
open Go.RowKit

theorem ret_pair {k l : IntKind} {p : Int × Int} {x y : Int} (h : p = (x, y)) : Ending.returned (.tuple #[.int k x, .int l y]) = .returned (.tuple #[.int k p.1, .int l p.2]) := by rw [h]
theorem ownerAt_step (t : Int) (ws : List Window) (k : Nat) (h : k < ws.length) :
    ownerAt t (ws.drop k) = if ws[k].from_ ≤ t ∧ t < ws[k].to_ then ws[k].part else ownerAt t (ws.drop (k + 1)) := by
  rw [List.drop_eq_getElem_cons h]
  rfl
theorem shareOf_step (p : Int) (ws : List Window) (k : Nat) (h : k < ws.length) :
    shareOf p (ws.drop k) = (if ws[k].part = p then ws[k].to_ - ws[k].from_ else 0) + shareOf p (ws.drop (k + 1)) := by
  rw [List.drop_eq_getElem_cons h]
  rfl

set_option maxRecDepth 100000 in
set_option maxHeartbeats 400000 in
theorem owner_any (g : Nat) (wv : Value) (ws : List Window) (t : Int) (w : World) (h3 : w.cell? ⟨g, 3, none⟩ = some wv) (hw : WindowsV w wv ws) :
    Calls Try.prog 29 #[.pointer (some ⟨g, 0, none⟩), .int .i64 t] w fun e w' => e = .returned (.int .i64 (ownerAt t ws)) ∧ Below w.heap.size w w' := by
  obtain ⟨a, c, rfl, hv1, hv2, hv3, hv4⟩ := hw
  have HV := Lib.hid hv4
  clear hv4
  have hl1 : ws.length ≤ 1000000000000000 := by omega
  go_enter Try.func29, Try.ntmps29
  go_wp2_with fail
  go_loopw [6, 12] (fun _ i wr => ∃ (k : Nat), k ≤ ws.length ∧ i = .int .i64 k ∧ Hid (ownerAt t ws = ownerAt t (ws.drop k)) ∧ Below w.heap.size w wr) (fun _ i _ => ws.length - (intOf i).toNat)
  case atStart => exact ⟨0, by omega, rfl, Lib.hid (by simp), Below.refl _ _⟩
  case round =>
    obtain ⟨k, hk, rfl, HD, hB⟩ := hrel
    have HB := Lib.hid hB
    clear hB h3
    by_cases hlt : k < ws.length
    · obtain ⟨b, off, rfl, hcell⟩ := HV.out (by intro h; rw [h] at hlt; simp at hlt)
      obtain ⟨y0, y1, y2⟩ := WindowAt.ext (Ext.below HB.out) (hcell k hlt)
      unfold IntAt at y0 y1 y2
      clear hcell
      have hstep := ownerAt_step t ws k hlt
      rw [← HD.out] at hstep
      have HS := Lib.hid hstep
      clear hstep HD
      go_wp2_with fail
      all_goals first
        | (go_ret
           exact ⟨ret_int (by rw [HS.out, if_pos (by omega)]), bthen HB.out (balloc _ _)⟩)
        | (go_roundw
           case rel => exact ⟨k + 1, by omega, by go_num, Lib.hid (by rw [HS.out, if_neg (by omega)]), bthen HB.out (balloc _ _)⟩
           case measure => simp [intOf]; omega)
    · have hfin : ownerAt t ws = -1 := by
        rw [HD.out, List.drop_of_length_le (by omega)]; rfl
      have HF := Lib.hid hfin
      clear hfin HD
      go_wp2_with fail
      go_ret
      exact ⟨ret_int HF.out.symm, HB.out⟩

theorem winsFrom_all (f n : Int) (ws : List Window) : ∀ (e : Int), winsFrom f n e ws = true → ∀ x ∈ ws, e ≤ x.from_ ∧ x.from_ < x.to_ ∧ x.to_ ≤ f ∧ 0 ≤ x.part ∧ x.part < n := by
  induction ws with
  | nil => intro e _ x hx; simp at hx
  | cons y r ih =>
    intro e h x hx
    unfold winsFrom at h
    simp only [Bool.and_eq_true, decide_eq_true_eq] at h
    rcases List.mem_cons.1 hx with rfl | hx
    · exact h.1
    · have := ih _ h.2 x hx
      omega
theorem check_ok {c : Config} (h : checkCfg c = 0) : 1 ≤ c.frame ∧ c.frame ≤ 256 ∧ 1 ≤ c.quiet ∧ c.quiet ≤ 16 ∧ 1 ≤ c.parts.length ∧ c.parts.length ≤ 8 ∧ c.windows.length ≤ 32 ∧ winsFrom c.frame c.parts.length 0 c.windows = true := by
  unfold checkCfg at h
  split at h
  · omega
  split at h
  · omega
  split at h
  · omega
  split at h
  · omega
  rename_i h1 h2 h3 h4
  have h4 : windowsMay c = true := by simpa using h4
  unfold windowsMay at h4
  simp only [Bool.and_eq_true, decide_eq_true_eq] at h4
  refine ⟨by omega, by omega, by omega, by omega, by omega, by omega, h4.2, h4.1⟩


end Go.Proofs.Ytfhebonhcolbdaa
