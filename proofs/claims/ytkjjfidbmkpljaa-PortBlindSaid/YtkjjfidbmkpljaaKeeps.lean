/- What a call leaves as it was, but for the blocks of an object; a drawn region with one step that writes. -/
import Derived.Test.YtkjjfidbmkpljaaOwn
import Derived.Test.YtkjjfidbmkpljaaRegJ
set_option linter.unusedVariables false
set_option linter.unusedSimpArgs false
namespace Go.Proofs.Ytkjjfidbmkpljaa
open Go.RowKit

/-- All blocks that there were are as they were, but for those of F. -/
structure Keeps (F : Nat → Prop) (w w' : World) : Prop where
  os : w'.os = w.os
  tape : w'.tape = w.tape
  output : w'.output = w.output
  size : w.heap.size ≤ w'.heap.size
  block : ∀ k, k < w.heap.size → ¬ F k → w'.heap[k]? = w.heap[k]?
theorem Keeps.refl (F : Nat → Prop) (w : World) : Keeps F w w := ⟨rfl, rfl, rfl, Nat.le_refl _, fun _ _ _ => rfl⟩
theorem Keeps.trans {F : Nat → Prop} {a b c : World} (h : Keeps F a b) (k : Keeps F b c) : Keeps F a c :=
  ⟨k.os.trans h.os, k.tape.trans h.tape, k.output.trans h.output, Nat.le_trans h.size k.size, fun i hi hf => (k.block i (Nat.lt_of_lt_of_le hi h.size) hf).trans (h.block i hi hf)⟩
theorem Keeps.mono {F G : Nat → Prop} {a b : World} (h : Keeps F a b) (hFG : ∀ k, k < a.heap.size → F k → G k) : Keeps G a b :=
  ⟨h.os, h.tape, h.output, h.size, fun i hi hf => h.block i hi (fun hF => hf (hFG i hi hF))⟩
theorem Keeps.of_below {F : Nat → Prop} {a b : World} (h : Below a.heap.size a b) : Keeps F a b := ⟨h.os, h.tape, h.output, h.size, fun i hi _ => h.block i hi⟩
theorem Keeps.of_grown {F : Nat → Prop} {a b : World} {r : Option Nat} (h : a.grownBy b r) (hr : ∀ k, r = some k → F k) : Keeps F a b :=
  ⟨h.os, h.tape, h.output, h.size, fun i hi hf => h.block i hi (fun e => hf (hr i e.symm))⟩
theorem Keeps.below {F : Nat → Prop} {B : Nat} {a b : World} (h : Keeps F a b) (hB : B ≤ a.heap.size) (hF : ∀ k, F k → B ≤ k) : Below B a b :=
  ⟨h.os, h.tape, h.output, h.size, fun i hi => h.block i (Nat.lt_of_lt_of_le hi hB) (fun hf => absurd (hF i hf) (by omega))⟩
theorem Keeps.at {F : Nat → Prop} {a b : World} {g : Nat} {o : Obj} (h : Keeps F a b) (hg : a.heap[g]? = some o) (hf : ¬ F g) : b.heap[g]? = some o :=
  (h.block g (lt_of_block hg) hf).trans hg
theorem Keeps.own {F : Nat → Prop} {w w' : World} {b : Nat} {e : TypeId} {size n : Nat} {v : Value} {xs : List Value} (h : w.ownsRow b e size v n xs) (hk : Keeps F w w') (hf : ∀ g, v.ownBlock = some g → ¬ F g) : w'.ownsRow b e size v n xs := by
  refine ⟨h.1, ?_⟩
  rcases h.2 with h1 | ⟨g, cap, cur, h1, h2, h3, h4⟩
  · exact .inl h1
  · exact .inr ⟨g, cap, cur, h1, h2, hk.at h3 (hf g (by rw [h1]; rfl)), h4⟩
theorem pv_upd {PV : Nat → Value → Prop} {L : Nat → Bool} {vs : Nat → Value} (h : ∀ i, L i = true → PV i (vs i)) {k : Nat} {v : Value} (hv : PV k v) : ∀ i, updB L k i = true → PV i (upd vs k v i) := by
  intro i hi
  unfold updB at hi
  unfold upd
  by_cases e : i = k
  · rw [if_pos e, e]; exact hv
  · rw [if_neg e] at hi ⊢; exact h i hi
/-- What holds while a region runs that has one step n which writes: S0 ahead of it, S1 behind it; PV: what each yields. -/
structure PInv (PV : Nat → Value → Prop) (n : Nat) (S0 S1 : World → Prop) (L : Nat → Bool) (vs : Nat → Value) (W : World) : Prop where
  pv : ∀ i, L i = true → PV i (vs i)
  s0 : L n = false → S0 W
  s1 : L n = true → S1 W
/-- What holds while a region runs that appends one element (cs) to an own row r: iN the element's own block, iA the append, iO its assignment. -/
structure AppInv (w : World) (e : TypeId) (size : Nat) (r : Value) (n : Nat) (xs cs : List Value) (PV : Nat → Value → Prop) (iN iA iO : Nat) (L : Nat → Bool) (vs : Nat → Value) (W : World) : Prop where
  pv : ∀ i, L i = true → PV i (vs i)
  below : Below w.heap.size w W
  row : L iA = false → W.ownsRow w.heap.size e size r n xs
  new : L iA = false → L iN = true → ∃ g, vs iN = .slice (some ⟨g, 0, none⟩) 1 1 ∧ W.heap[g]? = some (.cells cs.toArray e (0, 0))
  res : L iA = true → W.ownsRow w.heap.size e size (vs iA) (n + 1) (xs ++ cs)
  out : L iO = true → vs iO = vs iA
  old : L iO = false → vs iO = r
theorem AppInv.keep {w : World} {e : TypeId} {size : Nat} {r : Value} {n : Nat} {xs cs : List Value} {PV : Nat → Value → Prop} {iN iA iO : Nat} {L : Nat → Bool} {vs : Nat → Value} {W W' : World} (h : AppInv w e size r n xs cs PV iN iA iO L vs W) (hb : Below W.heap.size W W') : AppInv w e size r n xs cs PV iN iA iO L vs W' :=
  ⟨h.pv, bthen h.below hb, fun a => Below.kept (h.row a) hb, fun a c => by obtain ⟨g, h1, h2⟩ := h.new a c; exact ⟨g, h1, keep_at h2 hb⟩, fun a => Below.kept (h.res a) hb, h.out, h.old⟩
end Go.Proofs.Ytkjjfidbmkpljaa
