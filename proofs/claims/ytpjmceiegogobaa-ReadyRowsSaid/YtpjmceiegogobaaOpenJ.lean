/- An argument that reads as data is jobs, a job, whole numbers. -/
import Derived.Test.YtpjmceiegogobaaOpenG
import Derived.Test.YtpjmceiegogobaaJobD
set_option linter.unusedVariables false
set_option linter.unusedSimpArgs false
namespace Go.Proofs.Ytpjmceiegogobaa
open Go.ChangeShapes Go.WideShapes Go.ChangeAt Go.RowKit

section
variable {H : Type} {enc : TypeId × Value → H} {W : World} {sp : Nat → Bool}
theorem elemJob : Elem enc Try.prog W sp 24 7 JobAt := by
  intro n cs y b off h hw hc
  obtain ⟨hl, m, hf⟩ := fields_of Try.underlying24 (show Try.prog.cellsOf 24 = 7 by kernel_rfl) h hw
  obtain ⟨v0, z0, e0, t0, -⟩ := hf 0 _ rfl rfl c3 (by decide)
  obtain ⟨x0, rfl⟩ := int_of Try.underlying3 t0
  have h0 := (hc 0 (by decide)).trans e0
  obtain ⟨v1, z1, e1, t1, -⟩ := hf 1 _ rfl rfl c3 (by decide)
  obtain ⟨x1, rfl⟩ := int_of Try.underlying3 t1
  have h1 := (hc 1 (by decide)).trans e1
  obtain ⟨v2, z2, e2, t2, -⟩ := hf 2 _ rfl rfl c3 (by decide)
  obtain ⟨x2, rfl⟩ := int_of Try.underlying3 t2
  have h2 := (hc 2 (by decide)).trans e2
  obtain ⟨v3, z3, e3, t3, -⟩ := hf 3 _ rfl rfl c3 (by decide)
  obtain ⟨x3, rfl⟩ := int_of Try.underlying3 t3
  have h3 := (hc 3 (by decide)).trans e3
  obtain ⟨v4, z4, e4, t4, -⟩ := hf 4 _ rfl rfl c3 (by decide)
  obtain ⟨x4, rfl⟩ := int_of Try.underlying3 t4
  have h4 := (hc 4 (by decide)).trans e4
  obtain ⟨v5, z5, e5, t5, -⟩ := hf 5 _ rfl rfl c3 (by decide)
  obtain ⟨x5, rfl⟩ := int_of Try.underlying3 t5
  have h5 := (hc 5 (by decide)).trans e5
  obtain ⟨v6, z6, e6, t6, -⟩ := hf 6 _ rfl rfl c3 (by decide)
  obtain ⟨x6, rfl⟩ := int_of Try.underlying3 t6
  have h6 := (hc 6 (by decide)).trans e6
  exact ⟨⟨x0, x1, x2, x3, x4, x5, x6⟩, h0, h1, h2, h3, h4, h5, h6⟩
set_option maxRecDepth 100000 in
theorem open_jobs {v : Value} {d : DataW H} {p : List MemPlace} (hv : Value.okWide Try.prog W .any 0 22 v) (h : DataW.Trod enc Try.prog W 0 sp true 22 v d p) (hw : (d.weights Try.prog 22).all (· ≤ reachBytes) = true) : ∃ xs, JobsV W v xs := by
  obtain ⟨n, h⟩ := h
  obtain ⟨a, l, c, rfl⟩ := okWide_slice Try.underlying22 hv
  exact open_sliceAt Try.underlying22 (show Try.prog.cellsOf 24 = 7 by kernel_rfl) (show Try.prog.bytesOf 24 = 56 by kernel_rfl) (by decide) elemJob h hw
set_option maxRecDepth 100000 in
theorem open_job {v : Value} {d : DataW H} {p : List MemPlace} (hv : Value.okWide Try.prog W .any 0 24 v) (h : DataW.Trod enc Try.prog W 0 sp true 24 v d p) (hw : (d.weights Try.prog 24).all (· ≤ reachBytes) = true) : ∃ x, v = jobV x := by
  obtain ⟨cs, rfl, hsz⟩ := okWide_struct Try.underlying24 hv
  obtain ⟨n, h⟩ := h
  obtain ⟨hl, m, hf⟩ := fields_of Try.underlying24 (show Try.prog.cellsOf 24 = 7 by kernel_rfl) h hw
  have hcs : (Value.agg cs).cells.toList = cs.toList := rfl
  rw [hcs] at hl hf
  obtain ⟨v0, z0, e0, t0, -⟩ := hf 0 _ rfl rfl c3 (by decide)
  obtain ⟨x0, rfl⟩ := int_of Try.underlying3 t0
  obtain ⟨v1, z1, e1, t1, -⟩ := hf 1 _ rfl rfl c3 (by decide)
  obtain ⟨x1, rfl⟩ := int_of Try.underlying3 t1
  obtain ⟨v2, z2, e2, t2, -⟩ := hf 2 _ rfl rfl c3 (by decide)
  obtain ⟨x2, rfl⟩ := int_of Try.underlying3 t2
  obtain ⟨v3, z3, e3, t3, -⟩ := hf 3 _ rfl rfl c3 (by decide)
  obtain ⟨x3, rfl⟩ := int_of Try.underlying3 t3
  obtain ⟨v4, z4, e4, t4, -⟩ := hf 4 _ rfl rfl c3 (by decide)
  obtain ⟨x4, rfl⟩ := int_of Try.underlying3 t4
  obtain ⟨v5, z5, e5, t5, -⟩ := hf 5 _ rfl rfl c3 (by decide)
  obtain ⟨x5, rfl⟩ := int_of Try.underlying3 t5
  obtain ⟨v6, z6, e6, t6, -⟩ := hf 6 _ rfl rfl c3 (by decide)
  obtain ⟨x6, rfl⟩ := int_of Try.underlying3 t6
  refine ⟨⟨x0, x1, x2, x3, x4, x5, x6⟩, ?_⟩
  obtain ⟨l⟩ := cs
  have hl : l.length = 7 := hl
  match l, hl with
  | [a0, a1, a2, a3, a4, a5, a6], _ =>
    simp at e0 e1 e2 e3 e4 e5 e6
    subst e0 e1 e2 e3 e4 e5 e6
    rfl
theorem elemInt : Elem enc Try.prog W sp 3 1 IntAt := by
  intro n cs y b off h hw hc
  obtain ⟨x, hx, -⟩ := DataW.trod_int Try.underlying3 h
  have h0 := hc 0 (by decide)
  rw [hx, Nat.add_zero] at h0
  exact ⟨x, h0⟩
set_option maxRecDepth 100000 in
theorem open_intsV {v : Value} {d : DataW H} {p : List MemPlace} (hv : Value.okWide Try.prog W .any 0 41 v) (h : DataW.Trod enc Try.prog W 0 sp true 41 v d p) (hw : (d.weights Try.prog 41).all (· ≤ reachBytes) = true) : ∃ xs, IntsV W v xs := by
  obtain ⟨n, h⟩ := h
  obtain ⟨a, l, c, rfl⟩ := okWide_slice Try.underlying41 hv
  exact open_sliceAt Try.underlying41 (show Try.prog.cellsOf 3 = 1 by kernel_rfl) (show Try.prog.bytesOf 3 = 8 by kernel_rfl) (by decide) elemInt h hw
end
end Go.Proofs.Ytpjmceiegogobaa
