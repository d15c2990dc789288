/- An argument that reads as data is a configuration. -/
import Derived.Test.YtbkhnlacabaagaaOpenG
set_option linter.unusedVariables false
set_option linter.unusedSimpArgs false
namespace Go.Proofs.Ytbkhnlacabaagaa
open Go.ChangeShapes Go.WideShapes Go.ChangeAt Go.RowKit

section
variable {H : Type} {enc : TypeId × Value → H} {W : World} {sp : Nat → Bool}
theorem elemTask : Elem enc Try.prog W sp 50 6 TaskAt := by
  intro n cs y b off h hw hc
  obtain ⟨hl, m, hf⟩ := fields_of Try.underlying50 (show Try.prog.cellsOf 50 = 6 by kernel_rfl) h hw
  obtain ⟨v0, z0, e0, t0, -⟩ := hf 0 _ rfl rfl c3 (by decide)
  obtain ⟨x0, rfl⟩ := int_of Try.underlying3 t0
  have h0 := (hc 0 (by decide)).trans e0
  obtain ⟨v1, z1, e1, t1, -⟩ := hf 1 _ rfl rfl c3 (by decide)
  obtain ⟨x1, rfl⟩ := int_of Try.underlying3 t1
  have h1 := (hc 1 (by decide)).trans e1
  obtain ⟨v2, z2, e2, t2, -⟩ := hf 2 _ rfl rfl c3 (by decide)
  obtain ⟨x2, rfl⟩ := int_of Try.underlying3 t2
  have h2 := (hc 2 (by decide)).trans e2
  obtain ⟨v3, z3, e3, t3, -⟩ := hf 3 _ rfl rfl c3 (by decide)
  obtain ⟨x3, rfl⟩ := int_of Try.underlying3 t3
  have h3 := (hc 3 (by decide)).trans e3
  obtain ⟨v4, z4, e4, t4, -⟩ := hf 4 _ rfl rfl c3 (by decide)
  obtain ⟨x4, rfl⟩ := int_of Try.underlying3 t4
  have h4 := (hc 4 (by decide)).trans e4
  obtain ⟨v5, z5, e5, t5, -⟩ := hf 5 _ rfl rfl c3 (by decide)
  obtain ⟨x5, rfl⟩ := int_of Try.underlying3 t5
  have h5 := (hc 5 (by decide)).trans e5
  exact ⟨⟨x0, x1, x2, x3, x4, x5⟩, h0, h1, h2, h3, h4, h5⟩
theorem elemInstr : Elem enc Try.prog W sp 144 2 InstrAt := by
  intro n cs y b off h hw hc
  obtain ⟨hl, m, hf⟩ := fields_of Try.underlying144 (show Try.prog.cellsOf 144 = 2 by kernel_rfl) h hw
  obtain ⟨v0, z0, e0, t0, -⟩ := hf 0 _ rfl rfl c3 (by decide)
  obtain ⟨x0, rfl⟩ := int_of Try.underlying3 t0
  have h0 := (hc 0 (by decide)).trans e0
  obtain ⟨v1, z1, e1, t1, -⟩ := hf 1 _ rfl rfl c3 (by decide)
  obtain ⟨x1, rfl⟩ := int_of Try.underlying3 t1
  have h1 := (hc 1 (by decide)).trans e1
  exact ⟨⟨x0, x1⟩, h0, h1⟩
theorem elemWindow : Elem enc Try.prog W sp 149 3 WindowAt := by
  intro n cs y b off h hw hc
  obtain ⟨hl, m, hf⟩ := fields_of Try.underlying149 (show Try.prog.cellsOf 149 = 3 by kernel_rfl) h hw
  obtain ⟨v0, z0, e0, t0, -⟩ := hf 0 _ rfl rfl c3 (by decide)
  obtain ⟨x0, rfl⟩ := int_of Try.underlying3 t0
  have h0 := (hc 0 (by decide)).trans e0
  obtain ⟨v1, z1, e1, t1, -⟩ := hf 1 _ rfl rfl c3 (by decide)
  obtain ⟨x1, rfl⟩ := int_of Try.underlying3 t1
  have h1 := (hc 1 (by decide)).trans e1
  obtain ⟨v2, z2, e2, t2, -⟩ := hf 2 _ rfl rfl c3 (by decide)
  obtain ⟨x2, rfl⟩ := int_of Try.underlying3 t2
  have h2 := (hc 2 (by decide)).trans e2
  exact ⟨⟨x0, x1, x2⟩, h0, h1, h2⟩
theorem elemPort : Elem enc Try.prog W sp 121 4 PortAt := by
  intro n cs y b off h hw hc
  obtain ⟨hl, m, hf⟩ := fields_of Try.underlying121 (show Try.prog.cellsOf 121 = 4 by kernel_rfl) h hw
  obtain ⟨v0, z0, e0, t0, -⟩ := hf 0 _ rfl rfl c3 (by decide)
  obtain ⟨x0, rfl⟩ := int_of Try.underlying3 t0
  have h0 := (hc 0 (by decide)).trans e0
  obtain ⟨v1, z1, e1, t1, -⟩ := hf 1 _ rfl rfl c3 (by decide)
  obtain ⟨x1, rfl⟩ := int_of Try.underlying3 t1
  have h1 := (hc 1 (by decide)).trans e1
  obtain ⟨v2, z2, e2, t2, -⟩ := hf 2 _ rfl rfl c3 (by decide)
  obtain ⟨x2, rfl⟩ := int_of Try.underlying3 t2
  have h2 := (hc 2 (by decide)).trans e2
  obtain ⟨v3, z3, e3, t3, -⟩ := hf 3 _ rfl rfl c3 (by decide)
  obtain ⟨x3, rfl⟩ := int_of Try.underlying3 t3
  have h3 := (hc 3 (by decide)).trans e3
  exact ⟨⟨x0, x1, x2, x3⟩, h0, h1, h2, h3⟩
theorem elemPart : Elem enc Try.prog W sp 25 3 PartAt := by
  intro n cs y b off h hw hc
  obtain ⟨hl, m, hf⟩ := fields_of Try.underlying25 (show Try.prog.cellsOf 25 = 3 by kernel_rfl) h hw
  obtain ⟨v0, z0, e0, t0, -⟩ := hf 0 _ rfl rfl c3 (by decide)
  obtain ⟨x0, rfl⟩ := int_of Try.underlying3 t0
  have h0 := (hc 0 (by decide)).trans e0
  obtain ⟨v1, z1, e1, t1, w1⟩ := hf 1 _ rfl rfl (by kernel_rfl) (by decide)
  have h1 := (hc 1 (by decide)).trans e1
  obtain ⟨v2, z2, e2, t2, w2⟩ := hf 2 _ rfl rfl (by kernel_rfl) (by decide)
  have h2 := (hc 2 (by decide)).trans e2
  obtain ⟨ts, hts⟩ := open_sliceAt Try.underlying22 (show Try.prog.cellsOf 50 = 6 by kernel_rfl) (show Try.prog.bytesOf 50 = 48 by kernel_rfl) (by decide) elemTask t1 w1
  obtain ⟨is, his⟩ := open_sliceAt Try.underlying23 (show Try.prog.cellsOf 144 = 2 by kernel_rfl) (show Try.prog.bytesOf 144 = 16 by kernel_rfl) (by decide) elemInstr t2 w2
  exact ⟨⟨x0, ts, is⟩, h0, v1, v2, h1, h2, ⟨hts, his⟩⟩

set_option maxRecDepth 100000 in
theorem open_cfg {v : Value} {d : DataW H} {p : List MemPlace} (hv : Value.okWide Try.prog W .any 0 83 v) (h : DataW.Trod enc Try.prog W 0 sp true 83 v d p) (hw : (d.weights Try.prog 83).all (· ≤ reachBytes) = true) : ∃ c, CfgV W v c := by
  obtain ⟨cs, rfl, hsz⟩ := okWide_struct Try.underlying83 hv
  obtain ⟨n, h⟩ := h
  obtain ⟨hl, m, hf⟩ := fields_of Try.underlying83 (show Try.prog.cellsOf 83 = 5 by kernel_rfl) h hw
  have hcs : (Value.agg cs).cells.toList = cs.toList := rfl
  rw [hcs] at hl hf
  obtain ⟨v0, z0, e0, t0, -⟩ := hf 0 _ rfl rfl c3 (by decide)
  obtain ⟨x0, rfl⟩ := int_of Try.underlying3 t0
  obtain ⟨v1, z1, e1, t1, -⟩ := hf 1 _ rfl rfl c3 (by decide)
  obtain ⟨x1, rfl⟩ := int_of Try.underlying3 t1
  obtain ⟨v2, z2, e2, t2, w2⟩ := hf 2 _ rfl rfl (by kernel_rfl) (by decide)
  obtain ⟨v3, z3, e3, t3, w3⟩ := hf 3 _ rfl rfl (by kernel_rfl) (by decide)
  obtain ⟨v4, z4, e4, t4, w4⟩ := hf 4 _ rfl rfl (by kernel_rfl) (by decide)
  obtain ⟨ps, hps⟩ := open_sliceAt Try.underlying79 (show Try.prog.cellsOf 25 = 3 by kernel_rfl) (show Try.prog.bytesOf 25 = 56 by kernel_rfl) (by decide) elemPart t2 w2
  obtain ⟨ws, hws⟩ := open_sliceAt Try.underlying80 (show Try.prog.cellsOf 149 = 3 by kernel_rfl) (show Try.prog.bytesOf 149 = 24 by kernel_rfl) (by decide) elemWindow t3 w3
  obtain ⟨os, hos⟩ := open_sliceAt Try.underlying81 (show Try.prog.cellsOf 121 = 4 by kernel_rfl) (show Try.prog.bytesOf 121 = 32 by kernel_rfl) (by decide) elemPort t4 w4
  refine ⟨⟨x0, x1, ps, ws, os⟩, v2, v3, v4, ?_, ⟨hps, hws, hos⟩⟩
  obtain ⟨l⟩ := cs
  have hl : l.length = 5 := hl
  match l, hl with
  | [a0, a1, a2, a3, a4], _ =>
    simp at e0 e1 e2 e3 e4
    subst e0 e1 e2 e3 e4
    rfl
end
end Go.Proofs.Ytbkhnlacabaagaa
