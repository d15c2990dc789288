/- An argument that reads as data is a row. -/
import Derived.Test.YtjhhncahlijohaaOpenR
import Derived.Test.YtjhhncahlijohaaView4
set_option linter.unusedVariables false
set_option linter.unusedSimpArgs false
namespace Go.Proofs.Ytjhhncahlijohaa
open Go.ChangeShapes Go.WideShapes Go.ChangeAt Go.RowKit

section
variable {H : Type} {enc : TypeId × Value → H} {W : World} {sp : Nat → Bool}
set_option maxRecDepth 100000 in
theorem open_row {v : Value} {d : DataW H} {p : List MemPlace} (hv : Value.okWide Try.prog W .any 0 29 v) (h : DataW.Trod enc Try.prog W 0 sp true 29 v d p) (hw : (d.weights Try.prog 29).all (· ≤ reachBytes) = true) : ∃ r, RowVal W v r := by
  obtain ⟨cs, rfl, hsz⟩ := okWide_struct Try.underlying29 hv
  obtain ⟨n, h⟩ := h
  obtain ⟨hl, m, hf⟩ := fields_of Try.underlying29 (show Try.prog.cellsOf 29 = 5 by kernel_rfl) h hw
  have hcs : (Value.agg cs).cells.toList = cs.toList := rfl
  rw [hcs] at hl hf
  obtain ⟨v0, z0, e0, t0, -⟩ := hf 0 _ rfl rfl c3 (by decide)
  obtain ⟨x0, rfl⟩ := int_of Try.underlying3 t0
  obtain ⟨v1, z1, e1, t1, -⟩ := hf 1 _ rfl rfl c3 (by decide)
  obtain ⟨x1, rfl⟩ := int_of Try.underlying3 t1
  obtain ⟨v3, z3, e3, t3, -⟩ := hf 3 _ rfl rfl c3 (by decide)
  obtain ⟨x3, rfl⟩ := int_of Try.underlying3 t3
  obtain ⟨v2, z2, e2, t2, -⟩ := hf 2 _ rfl rfl (by kernel_rfl) (by decide)
  obtain ⟨x2, rfl⟩ := bool_of Try.underlying4 t2
  obtain ⟨v4, z4, e4, t4, w4⟩ := hf 4 _ rfl rfl (by kernel_rfl) (by decide)
  obtain ⟨es, hes⟩ := open_sliceAt Try.underlying27 (show Try.prog.cellsOf 39 = 4 by kernel_rfl) (show Try.prog.bytesOf 39 = 32 by kernel_rfl) (by decide) elemEvent t4 w4
  refine ⟨⟨x0, x1, x2, x3, es⟩, v4, ?_, hes⟩
  obtain ⟨l⟩ := cs
  have hl : l.length = 5 := hl
  match l, hl with
  | [a0, a1, a2, a3, a4], _ =>
    simp at e0 e1 e2 e3 e4
    subst e0 e1 e2 e3 e4
    rfl
end
end Go.Proofs.Ytjhhncahlijohaa
