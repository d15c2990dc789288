/- A block of cells that the call has made and writes: its cells as a function of the place. -/
import Derived.Test.YtkjjfidbmkpljaaData
set_option linter.unusedVariables false
set_option linter.unusedSimpArgs false
namespace Go.Proofs.Ytkjjfidbmkpljaa
open Go.RowKit

theorem CfgIs.shape {w : World} {pv wv ov : Value} {c : Config} (h : CfgIs w pv wv ov c) : ∃ pa pk wa wk oa ok, pv = .slice pa c.parts.length pk ∧ wv = .slice wa c.windows.length wk ∧ ov = .slice oa c.ports.length ok := by
  obtain ⟨pa, pk, h1, -⟩ := h.parts
  obtain ⟨wa, wk, h2, -⟩ := h.windows
  obtain ⟨oa, ok, h3, -⟩ := h.ports
  exact ⟨pa, pk, wa, wk, oa, ok, h1, h2, h3⟩

def ValRow (w : World) (q n : Nat) (f : Nat → Value) : Prop := ∃ cur t, w.heap[q]? = some (.cells cur t (0, 0)) ∧ cur.size = n ∧ ∀ s, s < n → cur[s]? = some (f s)
theorem ValRow.cell {w : World} {q n : Nat} {f : Nat → Value} (h : ValRow w q n f) (s : Nat) (hs : s < n) : w.cell? ⟨q, s, none⟩ = some (f s) := by
  obtain ⟨cur, t, h1, h2, h3⟩ := h
  unfold World.cell?
  rw [h1]
  simpa using h3 s hs
theorem ValRow.free {w : World} {q n : Nat} {f : Nat → Value} (h : ValRow w q n f) (s : Nat) : w.frozen? ⟨q, s, none⟩ = false := by
  obtain ⟨cur, t, h1, h2, h3⟩ := h
  unfold World.frozen?
  rw [h1]
  simp
theorem ValRow.lt {w : World} {q n : Nat} {f : Nat → Value} (h : ValRow w q n f) : q < w.heap.size := by
  obtain ⟨cur, t, h1, -⟩ := h
  exact lt_of_block h1
theorem ValRow.set {w : World} {q n : Nat} {f : Nat → Value} (h : ValRow w q n f) (j : Nat) (v : Value) : ValRow (w.setCell ⟨q, j, none⟩ v) q n (fun s => if s = j then v else f s) := by
  obtain ⟨cur, t, h1, h2, h3⟩ := h
  refine ⟨_, _, blk_set h1 j v, by simpa using h2, fun s hs => ?_⟩
  rw [Array.getElem?_setIfInBounds]
  by_cases e : s = j
  · subst e
    rw [if_pos rfl, if_pos (by omega)]
    simp
  · rw [if_neg (fun h => e h.symm)]
    exact (h3 s hs).trans (by simp [e])
theorem ValRow.below {w w' : World} {q n : Nat} {f : Nat → Value} (h : ValRow w q n f) (hb : Below w.heap.size w w') : ValRow w' q n f := by
  have hl := h.lt
  obtain ⟨cur, t, h1, h2, h3⟩ := h
  exact ⟨cur, t, (hb.block q hl).trans h1, h2, h3⟩
theorem ValRow.far {w : World} {q n : Nat} {f : Nat → Value} (h : ValRow w q n f) {p : Nat} (hp : p ≠ q) (j : Nat) (v : Value) : ValRow (w.setCell ⟨p, j, none⟩ v) q n f := by
  obtain ⟨cur, t, h1, h2, h3⟩ := h
  exact ⟨cur, t, by rw [Below.heap_setCell _ _ _ _ (fun e => hp e.symm)]; exact h1, h2, h3⟩
theorem ValRow.drewN {w : World} {q n : Nat} {f : Nat → Value} (h : ValRow w q n f) (m : Nat) : ValRow (w.drewN m) q n f := h
theorem ValRow.congr {w : World} {q n : Nat} {f g : Nat → Value} (h : ValRow w q n f) (e : ∀ s, s < n → f s = g s) : ValRow w q n g := by
  obtain ⟨cur, t, h1, h2, h3⟩ := h
  exact ⟨cur, t, h1, h2, fun s hs => by rw [h3 s hs, e s hs]⟩
theorem ValRow.made {w : World} {base : Nat} {e : TypeId} {g n : Nat} {z : Value} (h : w.ownsRow base e 1 (.slice (some ⟨g, 0, none⟩) n n) n (madeCells #[z] (n * 1)).toList) : ValRow w g n (fun _ => z) := by
  rcases h.2 with ⟨h', _⟩ | ⟨g', cap', cur, h', hb, hg, hnc, hcm, hcs, htake⟩
  · simp at h'
  · simp only [Value.slice.injEq, Option.some.injEq, Addr.mk.injEq, and_true, true_and] at h'
    obtain ⟨rfl, rfl⟩ := h'
    refine ⟨cur, e, hg, by simpa using hcs, fun s hs => ?_⟩
    have h1 : cur.toList[s]? = some z := by
      have h2 : (cur.toList.take (n * 1))[s]? = some z := by
        rw [htake, toList_madeCells_one]
        simp [hs]
      rw [List.getElem?_take] at h2
      simpa [hs] using h2
    simpa using h1
end Go.Proofs.Ytkjjfidbmkpljaa
