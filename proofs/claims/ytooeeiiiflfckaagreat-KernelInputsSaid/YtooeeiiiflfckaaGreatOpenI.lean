/- An argument that reads as data is a slice of whole numbers. -/
import Derived.Test.YtooeeiiiflfckaaGreatOpen
set_option linter.unusedVariables false
set_option linter.unusedSimpArgs false
namespace Go.Proofs.YtooeeiiiflfckaaGreat
open Go.ChangeShapes Go.WideShapes Go.ChangeAt Go.RowKit
section
variable {H : Type} {enc : TypeId × Value -> H} {W : World} {sp : Nat -> Bool}
theorem elemInt : Elem enc Tryz.prog W sp 3 1 IntAt := by
 intro n cs y b off h hw hc
 obtain ⟨x, hx, -⟩ := DataW.trod_int Tryz.underlying3 h
 have h0 := hc 0 (by decide)
 rw [hx, Nat.add_zero] at h0
 exact ⟨x, h0⟩
set_option maxRecDepth 100000 in
theorem open_intsV {v : Value} {d : DataW H} {p : List MemPlace} (hv : Value.okWide Tryz.prog W .any 0 75 v) (h : DataW.Trod enc Tryz.prog W 0 sp true 75 v d p) (hw : (d.weights Tryz.prog 75).all (· <= reachBytes) = true) : ∃ xs, IntsV W v xs := by
 obtain ⟨n, h⟩ := h
 obtain ⟨a, l, c, rfl⟩ := okWide_slice Tryz.underlying75 hv
 exact open_sliceAt Tryz.underlying75 (show Tryz.prog.cellsOf 3 = 1 by kernel_rfl) (show Tryz.prog.bytesOf 3 = 8 by kernel_rfl) (by decide) elemInt h hw
end
end Go.Proofs.YtooeeiiiflfckaaGreat
