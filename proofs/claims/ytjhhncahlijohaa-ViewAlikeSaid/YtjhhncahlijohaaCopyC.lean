/- config.Copy. -/
import Derived.Test.YtjhhncahlijohaaClone
import Derived.Test.YtjhhncahlijohaaTail
import Derived.Test.YtjhhncahlijohaaChk7
set_option linter.unusedVariables false
set_option linter.unusedSimpArgs false
namespace Go.Proofs.Ytjhhncahlijohaa
open Go.RowKit

theorem toldPartC : Told PartAt 3 where
  has h j hj := by
    obtain ⟨h0, tv, cv, h1, h2, h3⟩ := h
    rcases (show j = 0 ∨ j = 1 ∨ j = 2 by omega) with rfl | rfl | rfl
    · exact IntAt.has h0
    · obtain ⟨a, cap, rfl, -⟩ := h3.tasks
      exact ⟨_, h1, rfl⟩
    · obtain ⟨a, cap, rfl, -⟩ := h3.code
      exact ⟨_, h2, rfl⟩
  move h e hm := by
    obtain ⟨h0, tv, cv, h1, h2, h3⟩ := h
    exact ⟨hm 0 _ (by decide) h0, tv, cv, hm 1 _ (by decide) h1, hm 2 _ (by decide) h2, h3.ext e⟩
theorem parts_raw {w : World} {v : Value} {ps : List Part} (h : PartsV w v ps) : ∃ L : List Value, L.length = ps.length * 3 ∧ (∀ u ∈ L, u.oneCell' = true) ∧ Src w v ps.length L ∧ ∀ i (hi : i < ps.length), ∃ tv cv, L[i * 3]? = some (.int .i64 ps[i].level) ∧ L[i * 3 + 1]? = some tv ∧ L[i * 3 + 2]? = some cv ∧ PartIs w tv cv ps[i] := by
  obtain ⟨L, hl, h1, hs, -⟩ := SliceAt.cells toldPartC (by decide) h
  refine ⟨L, hl, h1, hs, fun i hi => ?_⟩
  obtain ⟨a, cap, rfl, -, -, -, h5⟩ := h
  obtain ⟨b, off, rfl, hc⟩ := h5 (by intro e; rw [e] at hi; simp at hi)
  obtain ⟨y0, tv, cv, y1, y2, y3⟩ := hc i hi
  have hget : ∀ j (v : Value), j < ps.length * 3 → w.cell? ⟨b, off + j, none⟩ = some v → L[j]? = some v := by
    intro j v hj hv
    have hlt : j < L.length := by omega
    rcases hs with ⟨c, e, -⟩ | ⟨ad, c, e, hs⟩
    · cases e
    · injection e with e
      injection e with e
      subst e
      have := hs j _ (List.getElem?_eq_getElem hlt)
      rw [addr_add, hv] at this
      rw [List.getElem?_eq_getElem hlt]
      exact this.symm
  refine ⟨tv, cv, hget _ _ (by omega) y0, hget _ _ (by omega) ?_, hget _ _ (by omega) ?_, y3⟩
  · rw [← Nat.add_assoc]; exact y1
  · rw [← Nat.add_assoc]; exact y2
/-- A part of a copy: its rows are the copy's own (blocks from B on). -/
def PartOf (W : World) (B : Nat) (tv cv : Value) (x : Part) : Prop := W.ownsRow B 48 6 tv x.tasks.length (x.tasks.flatMap taskCells) ∧ W.ownsRow B 54 2 cv x.code.length (x.code.flatMap instrCells)
theorem PartOf.below {W W' : World} {B : Nat} {tv cv : Value} {x : Part} (h : PartOf W B tv cv x) (hb : Below W.heap.size W W') : PartOf W' B tv cv x := ⟨Below.kept h.1 hb, Below.kept h.2 hb⟩
theorem PartOf.apart {W W' : World} {B : Nat} {tv cv : Value} {x : Part} (h : PartOf W B tv cv x) {r : Option Nat} (hg : W.grownBy W' r) (hr : ∀ g, r = some g → Typed W g 52) : PartOf W' B tv cv x := ⟨own_apart h.1 hg hr (by decide), own_apart h.2 hg hr (by decide)⟩
/-- The copy's parts' row, of which the first k are the copy's own as yet. -/
def CopyRow (w W : World) (B : Nat) (v : Value) (k : Nat) (ps : List Part) : Prop :=
  ∃ L, W.ownsRow B 52 3 v ps.length L ∧ ∀ i (hi : i < ps.length), ∃ tv cv, L[i * 3]? = some (.int .i64 ps[i].level) ∧ L[i * 3 + 1]? = some tv ∧ L[i * 3 + 2]? = some cv ∧ (i < k → PartOf W B tv cv ps[i]) ∧ (k ≤ i → PartIs w tv cv ps[i])
theorem CopyRow.below {w W W' : World} {B : Nat} {v : Value} {k : Nat} {ps : List Part} (h : CopyRow w W B v k ps) (hb : Below W.heap.size W W') : CopyRow w W' B v k ps := by
  obtain ⟨L, h1, h2⟩ := h
  refine ⟨L, Below.kept h1 hb, fun i hi => ?_⟩
  obtain ⟨tv, cv, a1, a2, a3, a4, a5⟩ := h2 i hi
  exact ⟨tv, cv, a1, a2, a3, fun h => (a4 h).below hb, a5⟩
theorem CopyRow.apart {w W W' : World} {B : Nat} {v : Value} {k : Nat} {ps : List Part} (h : CopyRow w W B v k ps) {r : Option Nat} {t : TypeId} (hg : W.grownBy W' r) (hr : ∀ g, r = some g → Typed W g t) (h1 : 52 ≠ t) (h2 : 48 ≠ t) (h3 : 54 ≠ t) : CopyRow w W' B v k ps := by
  obtain ⟨L, l1, l2⟩ := h
  refine ⟨L, own_apart l1 hg hr h1, fun i hi => ?_⟩
  obtain ⟨tv, cv, a1, a2, a3, a4, a5⟩ := l2 i hi
  exact ⟨tv, cv, a1, a2, a3, fun h => ⟨own_apart (a4 h).1 hg hr h2, own_apart (a4 h).2 hg hr h3⟩, a5⟩
/-- A part's two slices are written over by the copy's own. -/
theorem CopyRow.give {w W : World} {B g cap : Nat} {k : Nat} {ps : List Part} (h : CopyRow w W B (.slice (some ⟨g, 0, none⟩) ps.length cap) k ps) (hk : k < ps.length) {tv cv : Value} (hp : PartOf W B tv cv ps[k]) :
    CopyRow w ((W.setCell ⟨g, k * 3 + 1, none⟩ tv).setCell ⟨g, k * 3 + 2, none⟩ cv) B (.slice (some ⟨g, 0, none⟩) ps.length cap) (k + 1) ps := by
  obtain ⟨L, h1, h2⟩ := h
  have hty : ∀ q, some g = some q → Typed W q 52 := fun q hq => by injection hq with hq; rw [← hq]; exact own_typed h1 rfl
  have hgr : W.grownBy ((W.setCell ⟨g, k * 3 + 1, none⟩ tv).setCell ⟨g, k * 3 + 2, none⟩ cv) (some g) := grown_trans (set_grown _ _ _ _) (set_grown _ _ _ _)
  have hl : L.length = ps.length * 3 := h1.1
  refine ⟨_, own_set (own_set h1 _ _) _ _, fun i hi => ?_⟩
  obtain ⟨tv', cv', a1, a2, a3, a4, a5⟩ := h2 i hi
  by_cases e : i = k
  · subst e
    refine ⟨tv, cv, ?_, ?_, ?_, fun _ => hp.apart hgr hty, fun h => by omega⟩
    · rw [List.getElem?_set_ne (by omega), List.getElem?_set_ne (by omega)]; exact a1
    · rw [List.getElem?_set_ne (by omega), List.getElem?_set_self (by omega)]
    · rw [List.getElem?_set_self (by rw [List.length_set]; omega)]
  · refine ⟨tv', cv', ?_, ?_, ?_, fun h => (a4 (by omega)).apart hgr hty, fun h => a5 (by omega)⟩
    · rw [List.getElem?_set_ne (by omega), List.getElem?_set_ne (by omega)]; exact a1
    · rw [List.getElem?_set_ne (by omega), List.getElem?_set_ne (by omega)]; exact a2
    · rw [List.getElem?_set_ne (by omega), List.getElem?_set_ne (by omega)]; exact a3
theorem CopyRow.parts {w W : World} {B : Nat} {v : Value} {ps : List Part} (h : CopyRow w W B v ps.length ps) (h1 : ps.length * 56 ≤ 140737488351232) (h2 : ∀ x ∈ ps, x.tasks.length * 48 ≤ 140737488351232 ∧ x.code.length * 16 ≤ 140737488351232) : PartsV W v ps := by
  obtain ⟨L, l1, l2⟩ := h
  by_cases hx : ps = []
  · subst hx
    rcases l1.2 with ⟨rfl, _⟩ | ⟨g, cap', cur, rfl, _, _, hn, hm, _⟩
    · exact slice0 _ _ _ _
    · exact ⟨_, cap', rfl, by simp, hn, hm, fun h => absurd rfl h⟩
  · have hpos : 0 < ps.length := List.length_pos_iff.2 hx
    obtain ⟨g, cap', rfl, hg, hn, hm⟩ := ownsRow_some l1 hpos
    have hl : L.length = ps.length * 3 := l1.1
    refine ⟨_, cap', rfl, h1, hn, hm, fun _ => ⟨g, 0, rfl, fun i hi => ?_⟩⟩
    obtain ⟨tv, cv, a1, a2, a3, a4, -⟩ := l2 i hi
    have hsz := h2 _ (List.getElem_mem hi)
    refine ⟨?_, tv, cv, ?_, ?_, ⟨flatTask.slice (a4 hi).1 hsz.1, flatInstr.slice (a4 hi).2 hsz.2⟩⟩
    · unfold IntAt; rw [Nat.zero_add, l1.cellAt _ (by omega)]; exact a1
    · rw [Nat.zero_add, l1.cellAt _ (by omega)]; exact a2
    · rw [Nat.zero_add, l1.cellAt _ (by omega)]; exact a3
end Go.Proofs.Ytjhhncahlijohaa
