/- An argument that reads as data is a row of entries. -/
import Derived.Test.YtooeeiiiflfckaaGreatOpenG
import Derived.Test.YtooeeiiiflfckaaGreatKbY
set_option linter.unusedVariables false
set_option linter.unusedSimpArgs false
namespace Go.Proofs.YtooeeiiiflfckaaGreat
open Go.ChangeShapes Go.WideShapes Go.ChangeAt Go.RowKit
section
variable {H:Type} {enc:TypeId × Value->H} {W:World} {sp:Nat->Bool}
theorem elemEntry:Elem enc Tryz.prog W sp 38 5 EntryAt:=by
 intro n cs y b off h hw hc
 obtain ⟨hl,m,hf⟩:=fields_of Tryz.underlying38 (show Tryz.prog.cellsOf 38=5 by kernel_rfl) h hw
 obtain ⟨v0,z0,e0,t0,-⟩:=hf 0 _ rfl rfl c3 (by decide)
 obtain ⟨x0,rfl⟩:=int_of Tryz.underlying3 t0
 have h0:=(hc 0 (by decide)).trans e0
 obtain ⟨v1,z1,e1,t1,-⟩:=hf 1 _ rfl rfl c3 (by decide)
 obtain ⟨x1,rfl⟩:=int_of Tryz.underlying3 t1
 have h1:=(hc 1 (by decide)).trans e1
 obtain ⟨v2,z2,e2,t2,-⟩:=hf 2 _ rfl rfl c3 (by decide)
 obtain ⟨x2,rfl⟩:=int_of Tryz.underlying3 t2
 have h2:=(hc 2 (by decide)).trans e2
 obtain ⟨v3,z3,e3,t3,-⟩:=hf 3 _ rfl rfl c3 (by decide)
 obtain ⟨x3,rfl⟩:=int_of Tryz.underlying3 t3
 have h3:=(hc 3 (by decide)).trans e3
 obtain ⟨v4,z4,e4,t4,-⟩:=hf 4 _ rfl rfl c3 (by decide)
 obtain ⟨x4,rfl⟩:=int_of Tryz.underlying3 t4
 have h4:=(hc 4 (by decide)).trans e4
 exact ⟨⟨x0,x1,x2,x3,x4⟩,h0,h1,h2,h3,h4⟩
set_option maxRecDepth 100000 in
theorem open_entries {v:Value} {d:DataW H} {p:List MemPlace} (hv:Value.okWide Tryz.prog W .any 0 27 v) (h:DataW.Trod enc Tryz.prog W 0 sp true 27 v d p) (hw:(d.weights Tryz.prog 27).all (·<=reachBytes)=true):∃ xs,EntriesV W v xs:=by
 obtain ⟨n,h⟩:=h
 obtain ⟨a,l,c,rfl⟩:=okWide_slice Tryz.underlying27 hv
 exact open_sliceAt Tryz.underlying27 (show Tryz.prog.cellsOf 38=5 by kernel_rfl) (show Tryz.prog.bytesOf 38=40 by kernel_rfl) (by decide) elemEntry h hw
end
end Go.Proofs.YtooeeiiiflfckaaGreat
