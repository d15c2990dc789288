/- The law ViewRows: what a round's region owes. -/
import Derived.Test.YtjhhncahlijohaaLaw23b
import Derived.Test.YtjhhncahlijohaaView5
set_option linter.unusedVariables false
set_option linter.unusedSimpArgs false
namespace Go.Proofs.Ytjhhncahlijohaa
open Go.RowKit

/-- A glance in a block of its own. -/
def GlanceBox (W : World) (B g : Nat) (x : Glance) : Prop := ∃ ev, W.heap[g]? = some (.cells #[.int .i64 x.tick, .int .i64 x.owner, .int .i64 x.mode, ev] 32 (0, 0)) ∧ KeptRow W B ev x.events
theorem GlanceBox.below {W W' : World} {B g : Nat} {x : Glance} (h : GlanceBox W B g x) (hb : Below W.heap.size W W') : GlanceBox W' B g x := by
  obtain ⟨ev, h1, h2⟩ := h
  exact ⟨ev, keep_at h1 hb, h2.below hb⟩
theorem GlanceO.below {W W' : World} {B : Nat} {v : Value} {x : Glance} (h : GlanceO W B v x) (hb : Below W.heap.size W W') : GlanceO W' B v x := by
  obtain ⟨ev, h1, h2⟩ := h
  exact ⟨ev, h1, h2.below hb⟩
theorem GlanceO.apart {W W' : World} {B : Nat} {v : Value} {x : Glance} (h : GlanceO W B v x) {r : Option Nat} (hg : W.grownBy W' r) (hr : ∀ g, r = some g → Typed W g 32) : GlanceO W' B v x := by
  obtain ⟨ev, h1, h2⟩ := h
  exact ⟨ev, h1, own_apart h2 hg hr (by decide)⟩
structure VrInv (w : World) (C R : Value) (i b o : Nat) (RV : Value) (x : Glance) (L : Nat → Bool) (vs : Nat → Value) (W : World) : Prop where
  below : Below w.heap.size w W
  i0 : L 0 = true → vs 0 = C
  i1 : L 1 = true → vs 1 = R
  i2 : L 2 = true → vs 2 = .int .i64 i
  i3 : L 3 = true → vs 3 = .pointer (some ⟨b, o, none⟩)
  i4 : L 4 = true → vs 4 = RV
  i5 : L 5 = true → ∃ gv, vs 5 = .tuple #[gv, .int .i64 0] ∧ GlanceO W w.heap.size gv x
  i6 : L 6 = true → ∃ gv, vs 6 = .tuple #[gv, .int .i64 0] ∧ GlanceO W w.heap.size gv x
  i7 : L 7 = true → GlanceO W w.heap.size (vs 7) x
  i8 : L 8 = true → vs 8 = .int .i64 0
  i9 : L 9 = true → ∃ g, vs 9 = .pointer (some ⟨g, 0, none⟩) ∧ w.heap.size ≤ g ∧ (L 10 = false → W.heap[g]? = some (.cells #[.int .i64 0, .int .i64 0, .int .i64 0, .slice none 0 0] 32 (0, 0))) ∧ (L 10 = true → GlanceBox W w.heap.size g x)
  i11 : L 11 = true → vs 11 = .int .i64 0
theorem VrInv.keep {w : World} {C R : Value} {i b o : Nat} {RV : Value} {x : Glance} {L : Nat → Bool} {vs : Nat → Value} {W W' : World} (h : VrInv w C R i b o RV x L vs W) (hb : Below W.heap.size W W') : VrInv w C R i b o RV x L vs W' where
  below := bthen h.below hb
  i0 := h.i0
  i1 := h.i1
  i2 := h.i2
  i3 := h.i3
  i4 := h.i4
  i5 e := by
    obtain ⟨gv, h1, h2⟩ := h.i5 e
    exact ⟨gv, h1, h2.below hb⟩
  i6 e := by
    obtain ⟨gv, h1, h2⟩ := h.i6 e
    exact ⟨gv, h1, h2.below hb⟩
  i7 e := (h.i7 e).below hb
  i8 := h.i8
  i9 e := by
    obtain ⟨g, h1, h2, h3, h4⟩ := h.i9 e
    exact ⟨g, h1, h2, fun q => keep_at (h3 q) hb, fun q => (h4 q).below hb⟩
  i11 := h.i11
/-- A glance among others. -/
theorem GlancesO.at {W : World} {B : Nat} {a : Option Addr} {cap : Nat} {xs : List Glance} (h : GlancesO W B (.slice a xs.length cap) xs) (k : Nat) (hk : k < xs.length) :
    ∃ g ev, a = some ⟨g, 0, none⟩ ∧ W.cell? ⟨g, k * 4, none⟩ = some (.int .i64 xs[k].tick) ∧ W.cell? ⟨g, k * 4 + 1, none⟩ = some (.int .i64 xs[k].owner) ∧ W.cell? ⟨g, k * 4 + 2, none⟩ = some (.int .i64 xs[k].mode) ∧ W.cell? ⟨g, k * 4 + 3, none⟩ = some ev ∧ KeptRow W B ev xs[k].events := by
  obtain ⟨L, l1, l2⟩ := h
  obtain ⟨g, cap', e, hg, -, -⟩ := ownsRow_some l1 (by omega)
  injection e with e _ e'
  subst e; subst e'
  obtain ⟨ev, a0, a1, a2, a3, a4⟩ := l2 k hk
  have hl : L.length = xs.length * 4 := l1.1
  exact ⟨g, ev, rfl, by rw [l1.cellAt _ (by omega)]; exact a0, by rw [l1.cellAt _ (by omega)]; exact a1, by rw [l1.cellAt _ (by omega)]; exact a2, by rw [l1.cellAt _ (by omega)]; exact a3, a4⟩
end Go.Proofs.Ytjhhncahlijohaa
