/- Chapter 12's law ReadyRows, plainly: jobs put one by one stand in one row, whichever came first. -/
import Derived.Test.YtpjmceiegogobaaLaw12d
set_option linter.unusedVariables false
set_option linter.unusedSimpArgs false
namespace Go.Proofs.Ytpjmceiegogobaa
open Go.RowKit

def Good (x : Job) : Prop := ∃ p r t : Int, 0 ≤ p ∧ p ≤ 7 ∧ 0 ≤ r ∧ r ≤ 7 ∧ 0 ≤ t ∧ t ≤ 3 ∧ x = jobK p r t
theorem jobK_small {p r t : Int} (h1 : 0 ≤ r) (h2 : r ≤ 7) : jobK p r t = ⟨t, 0, p, r, r + 9, 5, 0⟩ := by
  have e : wrap64 (r + 9) = r + 9 := by have h := IntKind.wrap_i64 (r + 9); unfold IntKind.wrap at h; first | (rw [show wrap64 (r + 9) = _ from h]; omega) | (simp [wrap64]; omega)
  unfold jobK
  rw [e]
theorem Good.may {x : Job} (h : Good x) : jobMay x = true := by
  obtain ⟨p, r, t, h1, h2, h3, h4, h5, h6, rfl⟩ := h
  rw [jobK_small h3 h4]
  unfold jobMay
  rw [decide_eq_true_iff]
  dsimp only
  omega
theorem Good.same {x y : Job} (hx : Good x) (hy : Good y) (h : cmpJ y x = 0) : y = x := by
  obtain ⟨p, r, t, h1, h2, h3, h4, h5, h6, rfl⟩ := hx
  obtain ⟨p', r', t', g1, g2, g3, g4, g5, g6, rfl⟩ := hy
  have h' := (cmpJ_zero _ _).1 h
  rw [jobK_small h3 h4, jobK_small g3 g4] at h' ⊢
  unfold ahead at h'
  simp only [decide_eq_false_iff_not] at h'
  have e1 : p' = p := by omega
  have e2 : r' = r := by omega
  have e3 : t' = t := by omega
  rw [e1, e2, e3]
def stepR (up : List Job) (x : Job) : List Job := if putE up x = 0 then putL up x else up
/-- A row holds just those that were put. -/
structure InvR (up xs : List Job) : Prop where
  may : jobsMay up = true
  len : up.length ≤ xs.length
  mem : ∀ y, y ∈ up ↔ y ∈ xs
theorem InvR.nil : InvR [] [] := ⟨rfl, Nat.le_refl _, fun _ => Iff.rfl⟩
theorem InvR.step {up xs : List Job} {x : Job} (h : InvR up xs) (hg : ∀ y ∈ xs, Good y) (hx : Good x) (hl : xs.length < 16) : InvR (stepR up x) (xs ++ [x]) := by
  unfold stepR
  by_cases h0 : putE up x = 0
  · rw [if_pos h0]
    refine ⟨putL_may h0, by rw [putL_len]; have := h.len; simp; omega, fun y => ?_⟩
    rw [putL_mem, List.mem_append, List.mem_singleton, h.mem]
  · rw [if_neg h0]
    refine ⟨h.may, by have := h.len; simp; omega, fun y => ?_⟩
    have hh : hit up x = true := by
      cases hq : hit up x
      · exact absurd (by unfold putE; rw [if_neg (by rw [h.may, hx.may]; simp), if_neg (by rw [hq]; decide), if_neg (by have := h.len; omega)]) h0
      · rfl
    have hxm : x ∈ up := by
      unfold hit at hh
      rw [decide_eq_true_iff] at hh
      cases hq : up[pos up x]? with
      | none => rw [hq] at hh; simp at hh
      | some z =>
        rw [hq, Option.map_some, Option.some.injEq] at hh
        have hz := List.mem_of_getElem? hq
        rw [← hx.same (hg z ((h.mem z).1 hz)) hh]
        exact hz
    rw [List.mem_append, List.mem_singleton, ← h.mem]
    exact ⟨.inl, fun h => h.elim id (fun e => e ▸ hxm)⟩
theorem sorted_ext : ∀ (l1 l2 : List Job), l1.Pairwise (fun a b => ahead a b = true) → l2.Pairwise (fun a b => ahead a b = true) → (∀ y, y ∈ l1 ↔ y ∈ l2) → l1 = l2
  | [], [], _, _, _ => rfl
  | [], b :: r, _, _, h => by have := (h b).2 (List.mem_cons_self ..); simp at this
  | a :: r, [], _, _, h => by have := (h a).1 (List.mem_cons_self ..); simp at this
  | a :: r1, b :: r2, h1, h2, h => by
    rw [List.pairwise_cons] at h1 h2
    have hab : a = b := by
      rcases List.mem_cons.1 ((h a).1 (List.mem_cons_self ..)) with e | ha
      · exact e
      · rcases List.mem_cons.1 ((h b).2 (List.mem_cons_self ..)) with e | hb
        · exact e.symm
        · have := ahead_trans (h2.1 a ha) (h1.1 b hb)
          rw [ahead_irrefl] at this
          cases this
    subst hab
    rw [sorted_ext r1 r2 h1.2 h2.2 (fun y => ?_)]
    constructor
    · intro hy
      rcases List.mem_cons.1 ((h y).1 (List.mem_cons_of_mem _ hy)) with e | hy'
      · subst e; have := h1.1 y hy; rw [ahead_irrefl] at this; cases this
      · exact hy'
    · intro hy
      rcases List.mem_cons.1 ((h y).2 (List.mem_cons_of_mem _ hy)) with e | hy'
      · subst e; have := h2.1 y hy; rw [ahead_irrefl] at this; cases this
      · exact hy'
theorem InvR.ext {up down xs : List Job} (h1 : InvR up xs) (h2 : InvR down xs.reverse) : up = down :=
  sorted_ext up down ((jobsMay_pw up).1 h1.may).2.1 ((jobsMay_pw down).1 h2.may).2.1 (fun y => by rw [h1.mem, h2.mem, List.mem_reverse])
theorem first_least {up : List Job} (h : jobsMay up = true) {k : Nat} (hk : k < up.length) : (firstJ up).prio ≤ up[k].prio := by
  have h0 : 0 < up.length := by omega
  have hf : firstIs up = true := by unfold firstIs; rw [h]; cases up with | nil => simp at h0 | cons => rfl
  have hj : firstJ up = up[0] := by unfold firstJ; rw [if_pos hf]; exact getD_at h0
  rw [hj]
  rcases k with _ | k
  · exact Int.le_refl _
  · have := jobsMay_lt h k 0 (by omega)
    have := ahead_cases this
    simp only [Nat.zero_add] at this
    omega
theorem stepR_len (up : List Job) (x : Job) : (stepR up x).length ≤ up.length + 1 := by
  unfold stepR
  split
  · rw [putL_len]; exact Nat.le_refl _
  · omega
end Go.Proofs.Ytpjmceiegogobaa
