/- Rows of jobs, plainly: a row is sorted, and what is put stays so. -/
import Derived.Test.YtpjmceiegogobaaMis
import Derived.Test.YtpjmceiegogobaaPut2
set_option linter.unusedVariables false
set_option linter.unusedSimpArgs false
namespace Go.Proofs.Ytpjmceiegogobaa
open Go.RowKit

theorem jobsMay_pw (js : List Job) : jobsMay js = true ↔ (∀ x ∈ js, jobMay x = true) ∧ js.Pairwise (fun a b => ahead a b = true) ∧ js.length ≤ 16 := by
  constructor
  · intro h
    have h' := (jobsMay_iff js).1 h
    refine ⟨fun x hx => ?_, ?_, h'.2⟩
    · obtain ⟨i, hi, rfl⟩ := List.mem_iff_getElem.1 hx
      have h1 := h'.1 i hi
      unfold okAt at h1
      rw [getD_at hi, Bool.and_eq_true] at h1
      exact h1.1
    · rw [List.pairwise_iff_getElem]
      intro i j hi hj hij
      obtain ⟨d, rfl⟩ : ∃ d, j = i + d + 1 := ⟨j - i - 1, by omega⟩
      exact jobsMay_lt h d i hj
  · rintro ⟨h1, h2, h3⟩
    rw [jobsMay_iff]
    refine ⟨fun i hi => ?_, h3⟩
    rcases i with _ | i
    · exact okAt_first hi (h1 _ (List.getElem_mem hi))
    · rw [okAt_next hi (h1 _ (List.getElem_mem hi))]
      exact (List.pairwise_iff_getElem.1 h2) i (i + 1) (by omega) hi (by omega)
theorem jobsMay_filter {js : List Job} (h : jobsMay js = true) (p : Job → Bool) : jobsMay (js.filter p) = true := by
  rw [jobsMay_pw] at h ⊢
  exact ⟨fun x hx => h.1 x (List.mem_filter.1 hx).1, h.2.1.filter p, Nat.le_trans (List.length_filter_le p js) h.2.2⟩
theorem filt_get {p : Job → Bool} {js : List Job} {k : Nat} (hk : k < js.length) (hp : p js[k] = true) : (js.filter p)[((js.take k).filter p).length]? = some js[k] := by
  have e : js.filter p = (js.take k).filter p ++ (js.drop k).filter p := by rw [← List.filter_append, List.take_append_drop]
  rw [e, List.getElem?_append_right (Nat.le_refl _), Nat.sub_self, List.drop_eq_getElem_cons hk, List.filter_cons_of_pos hp]
  rfl
theorem left_late (js : List Job) (now : Int) : (js.filter (leftP now)).length + (js.filter (lateP now)).length = js.length := by
  induction js with
  | nil => rfl
  | cons x r ih =>
    by_cases h : x.deadline ≤ now
    · have h1 : leftP now x = false := by unfold leftP; simp [h]
      have h2 : lateP now x = true := by unfold lateP; simp [h]
      rw [List.filter_cons_of_neg (by rw [h1]; decide), List.filter_cons_of_pos h2, List.length_cons, List.length_cons]
      omega
    · have h1 : leftP now x = true := by unfold leftP; simp [h]
      have h2 : lateP now x = false := by unfold lateP; simp [h]
      rw [List.filter_cons_of_pos h1, List.filter_cons_of_neg (by rw [h2]; decide), List.length_cons, List.length_cons]
      omega
theorem ahead_irrefl (x : Job) : ahead x x = false := by
  unfold ahead
  rw [decide_eq_false_iff_not]
  omega
theorem tw_stop {α : Type} (p : α → Bool) : ∀ (l : List α) (h : (l.takeWhile p).length < l.length), p l[(l.takeWhile p).length] = false
  | [], h => by simp at h
  | x :: r, h => by
    by_cases hp : p x = true
    · simp only [List.takeWhile_cons_of_pos hp, List.length_cons, List.getElem_cons_succ] at h ⊢
      exact tw_stop p r (by simpa using h)
    · simp only [List.takeWhile_cons_of_neg hp, List.length_nil, List.getElem_cons_zero]
      simpa using hp
theorem pos_stop {js : List Job} {x : Job} (h : pos js x < js.length) : ahead js[pos js x] x = false := tw_stop (fun y => ahead y x) js h
theorem take_pos (js : List Job) (x : Job) : js.take (pos js x) = js.takeWhile (fun y => ahead y x) := (List.prefix_iff_eq_take.1 (List.takeWhile_prefix _)).symm
theorem before_pos {js : List Job} {x y : Job} (hy : y ∈ js.take (pos js x)) : ahead y x = true := by
  rw [take_pos] at hy
  have h := List.all_takeWhile (p := fun y => ahead y x) (l := js)
  rw [List.all_eq_true] at h
  exact h y hy
theorem hit_no {js : List Job} {x : Job} (h : hit js x = false) (hp : pos js x < js.length) : ahead x js[pos js x] = true := by
  cases hx : ahead x js[pos js x]
  · exfalso
    have hz : cmpJ js[pos js x] x = 0 := (cmpJ_zero _ _).2 ⟨pos_stop hp, hx⟩
    unfold hit at h
    rw [List.getElem?_eq_getElem hp, Option.map_some, hz] at h
    simp at h
  · rfl
theorem behind_pos {js : List Job} {x y : Job} (hm : jobsMay js = true) (h : hit js x = false) (hy : y ∈ js.drop (pos js x)) : ahead x y = true := by
  obtain ⟨i, hi, rfl⟩ := List.mem_iff_getElem.1 hy
  rw [List.length_drop] at hi
  rw [List.getElem_drop]
  have hp : pos js x < js.length := by omega
  rcases i with _ | i
  · exact hit_no h hp
  · exact ahead_trans (hit_no h hp) (jobsMay_lt hm i (pos js x) (by omega))
theorem putE_zero {js : List Job} {x : Job} (h : putE js x = 0) : jobsMay js = true ∧ jobMay x = true ∧ hit js x = false ∧ js.length ≠ 16 := by
  unfold putE at h
  by_cases h1 : jobsMay js = false ∨ jobMay x = false
  · rw [if_pos h1] at h; simp at h
  rw [if_neg h1] at h
  by_cases h2 : hit js x = true
  · rw [if_pos h2] at h; simp at h
  rw [if_neg h2] at h
  by_cases h3 : js.length = 16
  · rw [if_pos h3] at h; simp at h
  refine ⟨?_, ?_, by simpa using h2, h3⟩
  · cases hq : jobsMay js
    · exact absurd (.inl hq) h1
    · rfl
  · cases hq : jobMay x
    · exact absurd (.inr hq) h1
    · rfl
theorem putL_mem {js : List Job} {x y : Job} : y ∈ putL js x ↔ y ∈ js ∨ y = x := by
  unfold putL
  have e : y ∈ js ↔ y ∈ js.take (pos js x) ∨ y ∈ js.drop (pos js x) := by rw [← List.mem_append, List.take_append_drop]
  rw [e]
  simp only [List.mem_append, List.mem_singleton]
  constructor
  · rintro ((h | h) | h)
    · exact .inl (.inl h)
    · exact .inr h
    · exact .inl (.inr h)
  · rintro ((h | h) | h)
    · exact .inl (.inl h)
    · exact .inr h
    · exact .inl (.inr h)
theorem putL_len (js : List Job) (x : Job) : (putL js x).length = js.length + 1 := by
  have := pos_le js x
  unfold putL
  simp only [List.length_append, List.length_take, List.length_drop, List.length_cons, List.length_nil]
  omega
theorem putL_may {js : List Job} {x : Job} (h : putE js x = 0) : jobsMay (putL js x) = true := by
  obtain ⟨hm, hx, hh, h16⟩ := putE_zero h
  have hp := (jobsMay_pw js).1 hm
  rw [jobsMay_pw]
  refine ⟨fun y hy => ?_, ?_, ?_⟩
  · rcases putL_mem.1 hy with hy | rfl
    · exact hp.1 y hy
    · exact hx
  · unfold putL
    rw [List.append_assoc, List.pairwise_append]
    refine ⟨hp.2.1.sublist (List.take_sublist _ _), ?_, ?_⟩
    · rw [List.singleton_append, List.pairwise_cons]
      exact ⟨fun y hy => behind_pos hm hh hy, hp.2.1.sublist (List.drop_sublist _ _)⟩
    · intro a ha b hb
      rw [List.singleton_append, List.mem_cons] at hb
      rcases hb with rfl | hb
      · exact before_pos ha
      · exact ahead_trans (before_pos ha) (behind_pos hm hh hb)
  · rw [putL_len]; have := hp.2.2; omega
end Go.Proofs.Ytpjmceiegogobaa
