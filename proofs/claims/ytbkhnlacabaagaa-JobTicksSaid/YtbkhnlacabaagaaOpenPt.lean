/- An argument that reads as data is a part. -/
import Derived.Test.YtbkhnlacabaagaaOpen
import Derived.Test.YtbkhnlacabaagaaOpenI
import Derived.Test.YtbkhnlacabaagaaTickP
set_option linter.unusedVariables false
set_option linter.unusedSimpArgs false
namespace Go.Proofs.Ytbkhnlacabaagaa
open Go.ChangeShapes Go.WideShapes Go.ChangeAt Go.RowKit

section
variable {H : Type} {enc : TypeId × Value → H} {W : World} {sp : Nat → Bool}
set_option maxRecDepth 100000 in
theorem open_part {v : Value} {d : DataW H} {p : List MemPlace} (hv : Value.okWide Try.prog W .any 0 25 v) (h : DataW.Trod enc Try.prog W 0 sp true 25 v d p) (hw : (d.weights Try.prog 25).all (· ≤ reachBytes) = true) : ∃ c, PartV W v c := by
  obtain ⟨cs, rfl, hsz⟩ := okWide_struct Try.underlying25 hv
  obtain ⟨n, h⟩ := h
  obtain ⟨hl, m, hf⟩ := fields_of Try.underlying25 (show Try.prog.cellsOf 25 = 3 by kernel_rfl) h hw
  have hcs : (Value.agg cs).cells.toList = cs.toList := rfl
  rw [hcs] at hl hf
  obtain ⟨v0, z0, e0, t0, -⟩ := hf 0 _ rfl rfl c3 (by decide)
  obtain ⟨x0, rfl⟩ := int_of Try.underlying3 t0
  obtain ⟨v1, z1, e1, t1, w1⟩ := hf 1 _ rfl rfl (by kernel_rfl) (by decide)
  obtain ⟨v2, z2, e2, t2, w2⟩ := hf 2 _ rfl rfl (by kernel_rfl) (by decide)
  obtain ⟨ts, hts⟩ := open_sliceAt Try.underlying22 (show Try.prog.cellsOf 50 = 6 by kernel_rfl) (show Try.prog.bytesOf 50 = 48 by kernel_rfl) (by decide) elemTask t1 w1
  obtain ⟨is, his⟩ := open_sliceAt Try.underlying23 (show Try.prog.cellsOf 144 = 2 by kernel_rfl) (show Try.prog.bytesOf 144 = 16 by kernel_rfl) (by decide) elemInstr t2 w2
  refine ⟨⟨x0, ts, is⟩, v1, v2, ?_, ⟨hts, his⟩⟩
  obtain ⟨l⟩ := cs
  have hl : l.length = 3 := hl
  match l, hl with
  | [a0, a1, a2], _ =>
    simp at e0 e1 e2
    subst e0 e1 e2
    rfl
end
end Go.Proofs.Ytbkhnlacabaagaa
