/- Windows and whose ticks they are, built side by side. -/
import Derived.Test.YtgpefejghhgnmaaCw
set_option linter.unusedVariables false
set_option linter.unusedSimpArgs false
namespace Go.Proofs.Ytgpefejghhgnmaa
open Go.RowKit

theorem ownerAt_snoc (t : Int) (x : Window) (l : List Window) (h : ∀ y ∈ l, y.to_ ≤ x.from_) : ownerAt t (l ++ [x]) = if x.from_ ≤ t ∧ t < x.to_ then x.part else ownerAt t l := by
  induction l with
  | nil => simp [ownerAt]
  | cons y r ih =>
    have h1 := h y (by simp)
    have h2 := ih (fun z hz => h z (by simp [hz]))
    simp only [List.cons_append, ownerAt]
    rw [h2]
    by_cases c1 : y.from_ ≤ t ∧ t < y.to_
    · rw [if_pos c1, if_pos c1, if_neg (by omega)]
    · rw [if_neg c1, if_neg c1]
theorem ownerAt_after (t : Int) (l : List Window) (h : ∀ y ∈ l, y.to_ ≤ t) : ownerAt t l = -1 := by
  induction l with
  | nil => rfl
  | cons y r ih =>
    have h1 := h y (by simp)
    unfold ownerAt
    rw [if_neg (by omega), ih (fun z hz => h z (by simp [hz]))]
theorem winsFrom_mono {f f' n : Int} (hf : f ≤ f') : ∀ (ws : List Window) (e : Int), winsFrom f n e ws = true → winsFrom f' n e ws = true := by
  intro ws
  induction ws with
  | nil => intro e _; rfl
  | cons x r ih =>
    intro e h
    unfold winsFrom at h ⊢
    simp only [Bool.and_eq_true, decide_eq_true_eq] at h ⊢
    exact ⟨by omega, ih _ h.2⟩
theorem winsFrom_snoc {f n : Int} (x : Window) (h1 : x.from_ < x.to_) (h2 : x.to_ ≤ f) (h3 : 0 ≤ x.part) (h4 : x.part < n) : ∀ (ws : List Window) (e : Int), e ≤ x.from_ → (∀ y ∈ ws, y.to_ ≤ x.from_) → winsFrom f n e ws = true → winsFrom f n e (ws ++ [x]) = true := by
  intro ws
  induction ws with
  | nil =>
    intro e he _ _
    simp only [List.nil_append, winsFrom, Bool.and_eq_true, decide_eq_true_eq, and_true]
    omega
  | cons y r ih =>
    intro e he hy h
    simp only [List.cons_append]
    unfold winsFrom at h ⊢
    simp only [Bool.and_eq_true, decide_eq_true_eq] at h ⊢
    exact ⟨h.1, ih _ (hy y (by simp)) (fun z hz => hy z (by simp [hz])) h.2⟩
/-- After n windows: the next tick, the windows, whose the ticks are. -/
structure Win (n a : Nat) (ws : List Window) (wh : List Int) : Prop where
  len : ws.length = n
  ticks : wh.length = a
  small : a ≤ 11 * n
  whose : ∀ t, t < a → wh[t]? = some (ownerAt t ws)
  ends : ∀ x ∈ ws, x.to_ ≤ a
  may : winsFrom a 3 0 ws = true
theorem Win.zero : Win 0 0 [] [] := ⟨rfl, rfl, by omega, fun t h => absurd h (by omega), by simp, rfl⟩
theorem Win.next {n a : Nat} {ws : List Window} {wh : List Int} (h : Win n a ws wh) (g s : Nat) (hg : g ≤ 3) (hs : 1 ≤ s) (hs8 : s ≤ 8) :
    Win (n + 1) (a + g + s) (ws ++ [⟨(a : Int) + g, (a : Int) + g + s, ((n % 3 : Nat) : Int)⟩]) (wh ++ List.replicate g (-1) ++ List.replicate s ((n % 3 : Nat) : Int)) := by
  obtain ⟨h1, h2, h3, h4, h5, h6⟩ := h
  have hend : ∀ y ∈ ws, y.to_ ≤ (a : Int) + g := fun y hy => by have := h5 y hy; omega
  refine ⟨by simp [h1], by simp [h2]; omega, by omega, fun t ht => ?_, fun x hx => ?_, ?_⟩
  · rw [ownerAt_snoc _ _ _ hend]
    simp only
    by_cases c1 : t < a
    · rw [if_neg (by omega), List.getElem?_append_left (by simp [h2]; omega), List.getElem?_append_left (by omega)]
      exact h4 t c1
    · by_cases c2 : t < a + g
      · rw [if_neg (by omega), ownerAt_after _ _ (fun y hy => by have := h5 y hy; omega), List.getElem?_append_left (by simp [h2]; omega), List.getElem?_append_right (by omega), List.getElem?_replicate, if_pos (by omega)]
      · rw [if_pos (by omega), List.getElem?_append_right (by simp [h2]; omega), List.getElem?_replicate, if_pos (by simp [h2]; omega)]
  · rcases List.mem_append.1 hx with hx | hx
    · have := h5 x hx; omega
    · simp at hx; subst hx; simp
  · refine winsFrom_snoc _ (by simp; omega) (by simp) (Int.natCast_nonneg _) ?_ ws 0 (by simp; omega) hend (winsFrom_mono (by omega) ws 0 h6)
    simp only
    omega
/-- The configuration of the windows. -/
def winCfg (a : Nat) (ws : List Window) : Config := ⟨(a : Int) + 1, 1, [⟨1, [], []⟩, ⟨0, [], []⟩, ⟨0, [], []⟩], ws, []⟩
theorem winCfg_ok {n a : Nat} {ws : List Window} {wh : List Int} (h : Win n a ws wh) (hn : n ≤ 8) : checkCfg (winCfg a ws) = 0 := by
  obtain ⟨h1, h2, h3, h4, h5, h6⟩ := h
  have hw : windowsMay (winCfg a ws) = true := by
    unfold windowsMay
    have h7 : winsFrom ((a : Int) + 1) 3 0 ws = true := winsFrom_mono (by omega) ws 0 h6
    show (winsFrom ((a : Int) + 1) 3 0 ws && decide (ws.length ≤ 32)) = true
    rw [h7, decide_eq_true (by omega)]
    rfl
  unfold checkCfg
  simp only [show (winCfg a ws).parts = [⟨1, [], []⟩, ⟨0, [], []⟩, ⟨0, [], []⟩] from rfl, show (winCfg a ws).ports = [] from rfl]
  rw [if_neg (by show ¬ ((a : Int) + 1 < 1 ∨ (a : Int) + 1 > 256 ∨ (1 : Int) < 1 ∨ (1 : Int) > 16); omega), if_neg (by decide +kernel : ¬ (([⟨1, [], []⟩, ⟨0, [], []⟩, ⟨0, [], []⟩] : List Part).length < 1 ∨ ([⟨1, [], []⟩, ⟨0, [], []⟩, ⟨0, [], []⟩] : List Part).length > 8 ∨ ([⟨1, [], []⟩, ⟨0, [], []⟩, ⟨0, [], []⟩] : List Part).any (fun p => !levelMay p) = true)), if_neg (by decide +kernel : ¬ ([⟨1, [], []⟩, ⟨0, [], []⟩, ⟨0, [], []⟩] : List Part).any (fun p => !tasksMay p) = true), if_neg (by rw [hw]; simp), if_neg (by decide +kernel : ¬ (([] : List Port).length > 8 ∨ ([] : List Port).any (fun p => !portMay [⟨1, [], []⟩, ⟨0, [], []⟩, ⟨0, [], []⟩] p) = true)), if_neg (by decide +kernel : ¬ ([⟨1, [], []⟩, ⟨0, [], []⟩, ⟨0, [], []⟩] : List Part).any (fun p => !codeMay p.code) = true)]
theorem win_last {n a : Nat} {ws : List Window} {wh : List Int} (h : Win n a ws wh) (t : Nat) (ht : t < a + 1) : (wh ++ [-1])[t]? = some (ownerAt t ws) := by
  by_cases c : t < a
  · rw [List.getElem?_append_left (by rw [h.ticks]; exact c)]
    exact h.whose t c
  · rw [List.getElem?_append_right (by rw [h.ticks]; omega), h.ticks, ownerAt_after _ _ (fun y hy => by have := h.ends y hy; omega)]
    have : t - a = 0 := by omega
    rw [this]
    rfl
end Go.Proofs.Ytgpefejghhgnmaa
