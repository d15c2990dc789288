/- KernelShift answers yes: begun so many frames later, the same rows so much later. -/
import Derived.Test.YtooeeiiiflfckaaGreatLaw22e
import Derived.Test.YtooeeiiiflfckaaGreatOpenE
import Derived.Test.YtooeeiiiflfckaaGreatFacts
set_option linter.unusedVariables false
set_option linter.unusedSimpArgs false
namespace Go.Proofs.YtooeeiiiflfckaaGreat
open Go.ChangeShapes Go.WideShapes Go.ChangeAt Go.RowKit
set_option maxRecDepth 100000 in
theorem kernelShift_lifted (os:Os) (started:os.Started) (H:Type) (enc:TypeId × Value->H) :
  ReturnsInHanded {} Tryz.checked os 13 .any (Rows.kernelShiftSpec.pre6 enc Tryz.prog Tryz.f13 Rows.kernelShiftRow.domain false) (Rows.kernelShiftSpec.post enc Tryz.prog Tryz.f13 false true false false):=by
 refine returnsInHanded_of_change_sized (C:=Tryz.checked) own started (by kernel_rfl) Tryz.func13
  (ChangeSpec.witness6 (enc:=enc) (C:=Tryz.checked) false ⟨#[],#[.slice none 0 0,.int .i64 0],[]⟩ 8 (by kernel_rfl) (by kernel_rfl) (by kernel_rfl) (by kernel_rfl)) ?_
 intro W base args ds gs before hval0 hW hcnd hsz0 _
 have hsz:(DataW.weightsEach Tryz.prog (Tryz.f13.params.toList ++ Rows.kernelShiftSpec.plain.varTypes Tryz.prog) (ds ++ gs)).all (·<=reachBytes)=true:=hsz0
 have hval:∀ (j:Nat) t v,Tryz.f13.params[j]?=some t->args[j]?=some v->Value.okWide Tryz.prog W .any base t v:=hval0
 have hW':=hW
 obtain ⟨p,q,hA0,hV,rfl,hfz,hnd⟩:=hW
 have hA:DataW.TrodAll enc Tryz.prog W 0 (fun _=>true) true Tryz.f13.params.toList args.toList ds p:=hA0
 rw [Tryz.params13] at hA hval hsz
 obtain ⟨v0,vs0,d0,ds0,p0,q0,hargs,rfl,rfl,h0,r0⟩:=trodAll_cons hA
 obtain ⟨v1,vs1,d1,ds1,p1,q1,rfl,rfl,rfl,h1,r1⟩:=trodAll_cons r0
 obtain ⟨rfl,rfl,rfl⟩:=trodAll_nil r1
 obtain rfl:args=#[v0,v1]:=by cases args;simp_all
 obtain ⟨rfl,rfl⟩:=trodVars_none hV
 have k0:=h0
 have lt0:∀ x∈p0,x.block < W.heap.size:=by obtain ⟨m,hm⟩:=k0;exact DataW.trod_lt m _ _ _ hm
 obtain ⟨c0,hc0⟩:=open_entries (hval 0 27 v0 rfl rfl) h0 (weights_each hsz (j:=0) rfl rfl)
 obtain ⟨a1,rfl,rfl,rfl,w1⟩:=open_int Tryz.underlying3 (hval 1 3 v1 rfl rfl) h1
 clear hA0 hval0 hsz0 hsz
 refine (kernelShift_any c0 v0 a1 W hc0).mono fun e W' ⟨he,bel⟩=>?_
 subst he
 exact ⟨_,rfl,_,_,_,[],_,[],hW',trodAll_mk1 (shut_bool Tryz.underlying4 _),trodAll_mk2 (Below.trod fc_laidOut (by kernel_rfl) (of_decide_eq_true (by kernel_rfl)) k0 bel lt0) (shut_int Tryz.underlying3 w1),rfl,bel.frame _,fun h=>by cases h⟩
theorem kernelShift_named:Tryz.checked.prog.funcNamed Rows.kernelShiftRow.func=some 13:=by kernel_rfl
theorem kernelShift_wf:Rows.kernelShiftRow.wf (OpenSpec.ofChange Rows.kernelShiftSpec)=true:=by kernel_rfl
theorem kernelShift_inPlace:(Rows.kernelShiftRow.inPlace == Tryz.checked.prog.inPlace 13)=true:=by kernel_rfl
theorem kernelShift_unf:(Rows.kernelShiftRow.unfollowed == Tryz.checked.prog.unfollowed 13)=true:=by kernel_rfl
theorem kernelShift_rec:(Rows.kernelShiftRow.recurses == Tryz.checked.prog.recurses 13)=true:=by kernel_rfl
theorem kernelShift_nam:(Rows.kernelShiftRow.named == Tryz.checked.prog.varsNamed 13)=true:=by kernel_rfl
theorem kernelShift_pk:(Rows.kernelShiftRow.plainKeys == Tryz.checked.prog.plainKeys)=true:=by kernel_rfl
theorem kernelShift_tie:namedTie Tryz.checked.prog Rows.kernelShiftRow.named Rows.kernelShiftSpec.vars=true:=by kernel_rfl
theorem kernelShift_par:Tryz.f13.params.all (Tryz.checked.prog.readableRec ·)=true:=by kernel_rfl
theorem kernelShift_facts:joinedFacts Tryz.checked.prog 13 Tryz.f13 Rows.kernelShiftSpec Rows.kernelShiftRow=true:=by
 have a1:=kernelShift_wf
 have hl:(Rows.kernelShiftRow.lifted == Tryz.checked.prog.liftsFinal)=true:=by rw [show Tryz.checked.prog.liftsFinal=false from fc_lifts];rfl
 have hm:(Tryz.checked.prog.make == some Rows.kernelShiftRow.make)=true:=by rw [show Tryz.checked.prog.make=some Make.cut from fc_make];rfl
 unfold joinedFacts
 rw [kernelShift_wf,kernelShift_inPlace,kernelShift_unf,kernelShift_rec,kernelShift_nam,kernelShift_pk,kernelShift_tie,kernelShift_par,show laidOutB Tryz.checked.prog=true from fc_laidOut,show mapsRowed Tryz.checked.prog=true from fc_mapsRowed,show (Tryz.checked.prog.stops == [])=true from fc_stops,show (Tryz.checked.prog.stopKnobs == [])=true from fc_stopKnobs,show Tryz.checked.prog.stopsHeard=true from fc_heard,show Tryz.checked.prog.mayEnter=true from fc_mayEnter,hl,hm]
 show (_:Bool)=true
 kernel_rfl
theorem kernelShift_holds:Rows.KernelShiftSaid :=
 OpenClaim.holds_of_wide 13 Tryz.f13 rfl rfl rfl rfl rfl rfl rfl ⟨rfl,rfl,rfl,rfl,rfl⟩ rfl rfl rfl rfl rfl kernelShift_named Tryz.func13 kernelShift_facts
  (of_decide_eq_true (by kernel_rfl)) (by unfold Func.isWrapper;first | (rw [if_pos (by decide +kernel)];kernel_rfl) | (rw [if_neg (by decide +kernel)];exact ⟨rfl,rfl⟩))
  (fun os started H enc _=>kernelShift_lifted os started H enc)
end Go.Proofs.YtooeeiiiflfckaaGreat
