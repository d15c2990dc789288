/- An argument that reads as data is a slice of rows, or of whole numbers. -/
import Derived.Test.YtjhhncahlijohaaOpen
import Derived.Test.YtjhhncahlijohaaRowD
set_option linter.unusedVariables false
set_option linter.unusedSimpArgs false
namespace Go.Proofs.Ytjhhncahlijohaa
open Go.ChangeShapes Go.WideShapes Go.ChangeAt Go.RowKit

section
variable {H : Type} {enc : TypeId × Value → H} {W : World} {sp : Nat → Bool}
theorem bool_of {P : Program} {t : TypeId} {m : Nat} {v : Value} {z : DataW H × List MemPlace} (ht : P.underlying t = some .bool) (h : DataW.trod enc P W 0 sp true m t [v] = some z) : ∃ x, v = .bool x := by
  obtain ⟨x, hx, -⟩ := DataW.trod_bool ht h
  exact ⟨x, by simpa using hx⟩
theorem elemEvent : Elem enc Try.prog W sp 39 4 EventAt := by
  intro n cs y b off h hw hc
  obtain ⟨hl, m, hf⟩ := fields_of Try.underlying39 (show Try.prog.cellsOf 39 = 4 by kernel_rfl) h hw
  obtain ⟨v0, z0, e0, t0, -⟩ := hf 0 _ rfl rfl c3 (by decide)
  obtain ⟨x0, rfl⟩ := int_of Try.underlying3 t0
  have h0 := (hc 0 (by decide)).trans e0
  obtain ⟨v1, z1, e1, t1, -⟩ := hf 1 _ rfl rfl c3 (by decide)
  obtain ⟨x1, rfl⟩ := int_of Try.underlying3 t1
  have h1 := (hc 1 (by decide)).trans e1
  obtain ⟨v2, z2, e2, t2, -⟩ := hf 2 _ rfl rfl c3 (by decide)
  obtain ⟨x2, rfl⟩ := int_of Try.underlying3 t2
  have h2 := (hc 2 (by decide)).trans e2
  obtain ⟨v3, z3, e3, t3, -⟩ := hf 3 _ rfl rfl c3 (by decide)
  obtain ⟨x3, rfl⟩ := int_of Try.underlying3 t3
  have h3 := (hc 3 (by decide)).trans e3
  exact ⟨⟨x0, x1, x2, x3⟩, h0, h1, h2, h3⟩
theorem elemRow : Elem enc Try.prog W sp 29 5 RowAt := by
  intro n cs y b off h hw hc
  obtain ⟨hl, m, hf⟩ := fields_of Try.underlying29 (show Try.prog.cellsOf 29 = 5 by kernel_rfl) h hw
  obtain ⟨v0, z0, e0, t0, -⟩ := hf 0 _ rfl rfl c3 (by decide)
  obtain ⟨x0, rfl⟩ := int_of Try.underlying3 t0
  have h0 := (hc 0 (by decide)).trans e0
  obtain ⟨v1, z1, e1, t1, -⟩ := hf 1 _ rfl rfl c3 (by decide)
  obtain ⟨x1, rfl⟩ := int_of Try.underlying3 t1
  have h1 := (hc 1 (by decide)).trans e1
  obtain ⟨v3, z3, e3, t3, -⟩ := hf 3 _ rfl rfl c3 (by decide)
  obtain ⟨x3, rfl⟩ := int_of Try.underlying3 t3
  have h3 := (hc 3 (by decide)).trans e3
  obtain ⟨v2, z2, e2, t2, -⟩ := hf 2 _ rfl rfl (by kernel_rfl) (by decide)
  obtain ⟨x2, rfl⟩ := bool_of Try.underlying4 t2
  have h2 := (hc 2 (by decide)).trans e2
  obtain ⟨v4, z4, e4, t4, w4⟩ := hf 4 _ rfl rfl (by kernel_rfl) (by decide)
  have h4 := (hc 4 (by decide)).trans e4
  obtain ⟨es, hes⟩ := open_sliceAt Try.underlying27 (show Try.prog.cellsOf 39 = 4 by kernel_rfl) (show Try.prog.bytesOf 39 = 32 by kernel_rfl) (by decide) elemEvent t4 w4
  exact ⟨⟨x0, x1, x2, x3, es⟩, h0, h1, h2, h3, v4, h4, hes⟩
set_option maxRecDepth 100000 in
theorem open_rows {v : Value} {d : DataW H} {p : List MemPlace} (hv : Value.okWide Try.prog W .any 0 57 v) (h : DataW.Trod enc Try.prog W 0 sp true 57 v d p) (hw : (d.weights Try.prog 57).all (· ≤ reachBytes) = true) : ∃ rs, RowsV W v rs := by
  obtain ⟨n, h⟩ := h
  obtain ⟨a, l, c, rfl⟩ := okWide_slice Try.underlying57 hv
  exact open_sliceAt Try.underlying57 (show Try.prog.cellsOf 29 = 5 by kernel_rfl) (show Try.prog.bytesOf 29 = 56 by kernel_rfl) (by decide) elemRow h hw
end
end Go.Proofs.Ytjhhncahlijohaa
