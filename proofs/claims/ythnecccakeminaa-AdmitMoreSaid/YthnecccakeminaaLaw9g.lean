/- The law AdmitMore: with a longer window nothing comes later; with a greater budget nothing sooner. -/
import Derived.Test.YthnecccakeminaaLaw9f
import Derived.Test.YthnecccakeminaaMoreP
set_option linter.unusedVariables false
set_option linter.unusedSimpArgs false
namespace Go.Proofs.Ythnecccakeminaa
open Go.RowKit

/-- A copy's windows' block. -/
def WinsAt (W : World) (b : Nat) (ws : List Window) : Prop :=
  ∃ cur, W.heap[b]? = some (.cells cur 47 (0, 0)) ∧ ∀ i (h : i < ws.length), cur[i * 3]? = some (.int .i64 ws[i].from_) ∧ cur[i * 3 + 1]? = some (.int .i64 ws[i].to_) ∧ cur[i * 3 + 2]? = some (.int .i64 ws[i].part)
theorem WinsAt.of {W : World} {b cap B : Nat} {ws : List Window} {nw : List Value} (hv : WindowsV W (.slice (some ⟨b, 0, none⟩) ws.length cap) ws) (ho : W.ownsRow B 47 3 (.slice (some ⟨b, 0, none⟩) ws.length cap) ws.length nw) (h0 : ws ≠ []) : WinsAt W b ws := by
  obtain ⟨cur, hcur⟩ := own_typed ho (g := b) rfl
  refine ⟨cur, hcur, fun i hi => ?_⟩
  obtain ⟨a, cap', e, -, -, -, h5⟩ := hv
  injection e with e1 _ _
  subst e1
  obtain ⟨b', off, e, hc⟩ := h5 h0
  injection e with e
  injection e with e1 e2
  subst e1; subst e2
  obtain ⟨x0, x1, x2⟩ := hc i hi
  have hget : ∀ (j : Nat) (v : Value), W.cell? ⟨b, j, none⟩ = some v → cur[j]? = some v := by
    intro j v hj
    unfold World.cell? at hj
    rw [hcur] at hj
    simpa using hj
  unfold IntAt at x0 x1 x2
  rw [Nat.zero_add] at x0 x1 x2
  exact ⟨hget _ _ x0, hget _ _ x1, hget _ _ x2⟩
theorem WinsAt.wins {W : World} {b cap : Nat} {ws : List Window} (h : WinsAt W b ws) (h1 : ws.length * 24 ≤ 140737488351232) (h2 : ws.length ≤ cap) (h3 : cap ≤ maxLen) : WindowsV W (.slice (some ⟨b, 0, none⟩) ws.length cap) ws := by
  obtain ⟨cur, e1, e2⟩ := h
  refine ⟨_, cap, rfl, h1, h2, h3, fun _ => ⟨b, 0, rfl, fun i hi => ?_⟩⟩
  obtain ⟨x0, x1, x2⟩ := e2 i hi
  have hb := BlockIs.of e1
  rw [Nat.zero_add]
  exact ⟨hb _ _ x0, hb _ _ x1, hb _ _ x2⟩
theorem WinsAt.setTo {W : World} {b : Nat} {ws : List Window} (h : WinsAt W b ws) (m : Nat) (hm : m < ws.length) (t : Int) : WinsAt (W.setCell ⟨b, m * 3 + 1, none⟩ (.int .i64 t)) b (ws.set m ⟨ws[m].from_, t, ws[m].part⟩) := by
  obtain ⟨cur, e1, e2⟩ := h
  have hs : m * 3 + 1 < cur.size := (Array.getElem?_eq_some_iff.1 (e2 m hm).2.1).1
  refine ⟨_, blk_set e1 _ _, fun i hi => ?_⟩
  have hi' : i < ws.length := by simpa using hi
  obtain ⟨x0, x1, x2⟩ := e2 i hi'
  rw [List.getElem_set]
  by_cases e : m = i
  · subst e
    rw [if_pos rfl]
    exact ⟨by rw [Array.getElem?_setIfInBounds_ne (by omega)]; exact x0, by rw [Array.getElem?_setIfInBounds_self_of_lt hs], by rw [Array.getElem?_setIfInBounds_ne (by omega)]; exact x2⟩
  · rw [if_neg e]
    exact ⟨by rw [Array.getElem?_setIfInBounds_ne (by omega)]; exact x0, by rw [Array.getElem?_setIfInBounds_ne (by omega)]; exact x1, by rw [Array.getElem?_setIfInBounds_ne (by omega)]; exact x2⟩
theorem WinsAt.setPart {W : World} {b : Nat} {ws : List Window} (h : WinsAt W b ws) (m : Nat) (hm : m < ws.length) (p : Int) : WinsAt (W.setCell ⟨b, m * 3 + 2, none⟩ (.int .i64 p)) b (ws.set m ⟨ws[m].from_, ws[m].to_, p⟩) := by
  obtain ⟨cur, e1, e2⟩ := h
  have hs : m * 3 + 2 < cur.size := (Array.getElem?_eq_some_iff.1 (e2 m hm).2.2).1
  refine ⟨_, blk_set e1 _ _, fun i hi => ?_⟩
  have hi' : i < ws.length := by simpa using hi
  obtain ⟨x0, x1, x2⟩ := e2 i hi'
  rw [List.getElem_set]
  by_cases e : m = i
  · subst e
    rw [if_pos rfl]
    exact ⟨by rw [Array.getElem?_setIfInBounds_ne (by omega)]; exact x0, by rw [Array.getElem?_setIfInBounds_ne (by omega)]; exact x1, by rw [Array.getElem?_setIfInBounds_self_of_lt hs]⟩
  · rw [if_neg e]
    exact ⟨by rw [Array.getElem?_setIfInBounds_ne (by omega)]; exact x0, by rw [Array.getElem?_setIfInBounds_ne (by omega)]; exact x1, by rw [Array.getElem?_setIfInBounds_ne (by omega)]; exact x2⟩
theorem longer_set (F p : Int) (ws : List Window) (h : ws ≠ []) : longer F p ws = ws.set (ws.length - 1) ⟨(ws[ws.length - 1]'(by have := List.length_pos_iff.2 h; omega)).from_, if (ws[ws.length - 1]'(by have := List.length_pos_iff.2 h; omega)).to_ < F then F else (ws[ws.length - 1]'(by have := List.length_pos_iff.2 h; omega)).to_, p⟩ := by
  induction ws with
  | nil => exact absurd rfl h
  | cons x r ih =>
    cases r with
    | nil => rfl
    | cons y r =>
      have := ih (by simp)
      unfold longer
      rw [this]
      rfl
end Go.Proofs.Ythnecccakeminaa
