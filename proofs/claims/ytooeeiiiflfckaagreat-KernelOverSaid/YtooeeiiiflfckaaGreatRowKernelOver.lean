/- KernelOver answers yes: the mode is high from the very tick at which a high job has used its low budget and is not done. -/
import Derived.Test.YtooeeiiiflfckaaGreatLaw22g
import Derived.Test.YtooeeiiiflfckaaGreatOpen
import Derived.Test.YtooeeiiiflfckaaGreatFacts
set_option linter.unusedVariables false
set_option linter.unusedSimpArgs false
namespace Go.Proofs.YtooeeiiiflfckaaGreat
open Go.ChangeShapes Go.WideShapes Go.ChangeAt Go.RowKit
set_option maxRecDepth 100000 in
theorem kernelOver_lifted (os:Os) (started:os.Started) (H:Type) (enc:TypeId × Value->H) :
  ReturnsInHanded {} Tryz.checked os 9 .any (Rows.kernelOverSpec.pre6 enc Tryz.prog Tryz.f9 Rows.kernelOverRow.domain false) (Rows.kernelOverSpec.post enc Tryz.prog Tryz.f9 false true false false):=by
 refine returnsInHanded_of_change_sized (C:=Tryz.checked) own started (by kernel_rfl) Tryz.func9
  (ChangeSpec.witness6 (enc:=enc) (C:=Tryz.checked) false ⟨#[],#[.int .i64 0,.int .i64 0,.int .i64 0],[]⟩ 8 (by kernel_rfl) (by kernel_rfl) (by kernel_rfl) (by kernel_rfl)) ?_
 intro W base args ds gs before hval0 hW hcnd hsz0 _
 have hsz:(DataW.weightsEach Tryz.prog (Tryz.f9.params.toList ++ Rows.kernelOverSpec.plain.varTypes Tryz.prog) (ds ++ gs)).all (·<=reachBytes)=true:=hsz0
 have hval:∀ (j:Nat) t v,Tryz.f9.params[j]?=some t->args[j]?=some v->Value.okWide Tryz.prog W .any base t v:=hval0
 have hW':=hW
 obtain ⟨p,q,hA0,hV,rfl,hfz,hnd⟩:=hW
 have hA:DataW.TrodAll enc Tryz.prog W 0 (fun _=>true) true Tryz.f9.params.toList args.toList ds p:=hA0
 rw [Tryz.params9] at hA hval hsz
 obtain ⟨v0,vs0,d0,ds0,p0,q0,hargs,rfl,rfl,h0,r0⟩:=trodAll_cons hA
 obtain ⟨v1,vs1,d1,ds1,p1,q1,rfl,rfl,rfl,h1,r1⟩:=trodAll_cons r0
 obtain ⟨v2,vs2,d2,ds2,p2,q2,rfl,rfl,rfl,h2,r2⟩:=trodAll_cons r1
 obtain ⟨rfl,rfl,rfl⟩:=trodAll_nil r2
 obtain rfl:args=#[v0,v1,v2]:=by cases args;simp_all
 obtain ⟨rfl,rfl⟩:=trodVars_none hV
 obtain ⟨a0,rfl,rfl,rfl,w0⟩:=open_int Tryz.underlying3 (hval 0 3 v0 rfl rfl) h0
 obtain ⟨a1,rfl,rfl,rfl,w1⟩:=open_int Tryz.underlying3 (hval 1 3 v1 rfl rfl) h1
 obtain ⟨a2,rfl,rfl,rfl,w2⟩:=open_int Tryz.underlying3 (hval 2 3 v2 rfl rfl) h2
 clear hA0 hval0 hsz0 hsz
 refine (kernelOver_any a0 a1 a2 W ).mono fun e W' ⟨he,bel⟩=>?_
 subst he
 exact ⟨_,rfl,_,_,_,[],_,[],hW',trodAll_mk1 (shut_bool Tryz.underlying4 _),⟨_,_,(shut_int Tryz.underlying3 w0),⟨_,_,(shut_int Tryz.underlying3 w1),⟨_,_,(shut_int Tryz.underlying3 w2),rfl,rfl⟩,rfl⟩,rfl⟩,rfl,bel.frame _,fun h=>by cases h⟩
theorem kernelOver_named:Tryz.checked.prog.funcNamed Rows.kernelOverRow.func=some 9:=by kernel_rfl
theorem kernelOver_wf:Rows.kernelOverRow.wf (OpenSpec.ofChange Rows.kernelOverSpec)=true:=by kernel_rfl
theorem kernelOver_inPlace:(Rows.kernelOverRow.inPlace == Tryz.checked.prog.inPlace 9)=true:=by kernel_rfl
theorem kernelOver_unf:(Rows.kernelOverRow.unfollowed == Tryz.checked.prog.unfollowed 9)=true:=by kernel_rfl
theorem kernelOver_rec:(Rows.kernelOverRow.recurses == Tryz.checked.prog.recurses 9)=true:=by kernel_rfl
theorem kernelOver_nam:(Rows.kernelOverRow.named == Tryz.checked.prog.varsNamed 9)=true:=by kernel_rfl
theorem kernelOver_pk:(Rows.kernelOverRow.plainKeys == Tryz.checked.prog.plainKeys)=true:=by kernel_rfl
theorem kernelOver_tie:namedTie Tryz.checked.prog Rows.kernelOverRow.named Rows.kernelOverSpec.vars=true:=by kernel_rfl
theorem kernelOver_par:Tryz.f9.params.all (Tryz.checked.prog.readableRec ·)=true:=by kernel_rfl
theorem kernelOver_facts:joinedFacts Tryz.checked.prog 9 Tryz.f9 Rows.kernelOverSpec Rows.kernelOverRow=true:=by
 have a1:=kernelOver_wf
 have hl:(Rows.kernelOverRow.lifted == Tryz.checked.prog.liftsFinal)=true:=by rw [show Tryz.checked.prog.liftsFinal=false from fc_lifts];rfl
 have hm:(Tryz.checked.prog.make == some Rows.kernelOverRow.make)=true:=by rw [show Tryz.checked.prog.make=some Make.cut from fc_make];rfl
 unfold joinedFacts
 rw [kernelOver_wf,kernelOver_inPlace,kernelOver_unf,kernelOver_rec,kernelOver_nam,kernelOver_pk,kernelOver_tie,kernelOver_par,show laidOutB Tryz.checked.prog=true from fc_laidOut,show mapsRowed Tryz.checked.prog=true from fc_mapsRowed,show (Tryz.checked.prog.stops == [])=true from fc_stops,show (Tryz.checked.prog.stopKnobs == [])=true from fc_stopKnobs,show Tryz.checked.prog.stopsHeard=true from fc_heard,show Tryz.checked.prog.mayEnter=true from fc_mayEnter,hl,hm]
 show (_:Bool)=true
 kernel_rfl
theorem kernelOver_holds:Rows.KernelOverSaid :=
 OpenClaim.holds_of_wide 9 Tryz.f9 rfl rfl rfl rfl rfl rfl rfl ⟨rfl,rfl,rfl,rfl,rfl⟩ rfl rfl rfl rfl rfl kernelOver_named Tryz.func9 kernelOver_facts
  (of_decide_eq_true (by kernel_rfl)) (by unfold Func.isWrapper;first | (rw [if_pos (by decide +kernel)];kernel_rfl) | (rw [if_neg (by decide +kernel)];exact ⟨rfl,rfl⟩))
  (fun os started H enc _=>kernelOver_lifted os started H enc)
end Go.Proofs.YtooeeiiiflfckaaGreat
