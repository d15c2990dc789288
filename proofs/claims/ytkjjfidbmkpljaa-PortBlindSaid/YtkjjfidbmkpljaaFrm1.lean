/- What the functions of package frame answer: Owner, At, Share. -/
import Derived.Test.YtkjjfidbmkpljaaChk7
set_option linter.unusedVariables false
set_option linter.unusedSimpArgs false
namespace Go.Proofs.Ytkjjfidbmkpljaa
open Go.RowKit

theorem ret_pair {k l : IntKind} {p : Int × Int} {x y : Int} (h : p = (x, y)) : Ending.returned (.tuple #[.int k x, .int l y]) = .returned (.tuple #[.int k p.1, .int l p.2]) := by rw [h]
theorem ownerAt_step (t : Int) (ws : List Window) (k : Nat) (h : k < ws.length) :
    ownerAt t (ws.drop k) = if ws[k].from_ ≤ t ∧ t < ws[k].to_ then ws[k].part else ownerAt t (ws.drop (k + 1)) := by
  rw [List.drop_eq_getElem_cons h]
  rfl
theorem shareOf_step (p : Int) (ws : List Window) (k : Nat) (h : k < ws.length) :
    shareOf p (ws.drop k) = (if ws[k].part = p then ws[k].to_ - ws[k].from_ else 0) + shareOf p (ws.drop (k + 1)) := by
  rw [List.drop_eq_getElem_cons h]
  rfl

theorem winsFrom_all (f n : Int) (ws : List Window) : ∀ (e : Int), winsFrom f n e ws = true → ∀ x ∈ ws, e ≤ x.from_ ∧ x.from_ < x.to_ ∧ x.to_ ≤ f ∧ 0 ≤ x.part ∧ x.part < n := by
  induction ws with
  | nil => intro e _ x hx; simp at hx
  | cons y r ih =>
    intro e h x hx
    unfold winsFrom at h
    simp only [Bool.and_eq_true, decide_eq_true_eq] at h
    rcases List.mem_cons.1 hx with rfl | hx
    · exact h.1
    · have := ih _ h.2 x hx
      omega
theorem check_ok {c : Config} (h : checkCfg c = 0) : 1 ≤ c.frame ∧ c.frame ≤ 256 ∧ 1 ≤ c.quiet ∧ c.quiet ≤ 16 ∧ 1 ≤ c.parts.length ∧ c.parts.length ≤ 8 ∧ c.windows.length ≤ 32 ∧ winsFrom c.frame c.parts.length 0 c.windows = true := by
  unfold checkCfg at h
  split at h
  · omega
  split at h
  · omega
  split at h
  · omega
  split at h
  · omega
  rename_i h1 h2 h3 h4
  have h4 : windowsMay c = true := by simpa using h4
  unfold windowsMay at h4
  simp only [Bool.and_eq_true, decide_eq_true_eq] at h4
  refine ⟨by omega, by omega, by omega, by omega, by omega, by omega, h4.2, h4.1⟩


end Go.Proofs.Ytkjjfidbmkpljaa
