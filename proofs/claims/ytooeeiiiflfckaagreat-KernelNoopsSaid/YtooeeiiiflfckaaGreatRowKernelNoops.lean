/- KernelNoops answers yes: entries that do not fit, and a tick with too many, change nothing. -/
import Derived.Test.YtooeeiiiflfckaaGreatLaw22f
import Derived.Test.YtooeeiiiflfckaaGreatOpenE
import Derived.Test.YtooeeiiiflfckaaGreatFacts
set_option linter.unusedVariables false
set_option linter.unusedSimpArgs false
namespace Go.Proofs.YtooeeiiiflfckaaGreat
open Go.ChangeShapes Go.WideShapes Go.ChangeAt Go.RowKit
set_option maxRecDepth 100000 in
theorem kernelNoops_lifted (os:Os) (started:os.Started) (H:Type) (enc:TypeId × Value->H) :
  ReturnsInHanded {} Tryz.checked os 5 .any (Rows.kernelNoopsSpec.pre6 enc Tryz.prog Tryz.f5 Rows.kernelNoopsRow.domain false) (Rows.kernelNoopsSpec.post enc Tryz.prog Tryz.f5 false true false false):=by
 refine returnsInHanded_of_change_sized (C:=Tryz.checked) own started (by kernel_rfl) Tryz.func5
  (ChangeSpec.witness6 (enc:=enc) (C:=Tryz.checked) false ⟨#[],#[.slice none 0 0,.slice none 0 0,.int .i64 0],[]⟩ 8 (by kernel_rfl) (by kernel_rfl) (by kernel_rfl) (by kernel_rfl)) ?_
 intro W base args ds gs before hval0 hW hcnd hsz0 _
 have hsz:(DataW.weightsEach Tryz.prog (Tryz.f5.params.toList ++ Rows.kernelNoopsSpec.plain.varTypes Tryz.prog) (ds ++ gs)).all (·<=reachBytes)=true:=hsz0
 have hval:∀ (j:Nat) t v,Tryz.f5.params[j]?=some t->args[j]?=some v->Value.okWide Tryz.prog W .any base t v:=hval0
 have hW':=hW
 obtain ⟨p,q,hA0,hV,rfl,hfz,hnd⟩:=hW
 have hA:DataW.TrodAll enc Tryz.prog W 0 (fun _=>true) true Tryz.f5.params.toList args.toList ds p:=hA0
 rw [Tryz.params5] at hA hval hsz
 obtain ⟨v0,vs0,d0,ds0,p0,q0,hargs,rfl,rfl,h0,r0⟩:=trodAll_cons hA
 obtain ⟨v1,vs1,d1,ds1,p1,q1,rfl,rfl,rfl,h1,r1⟩:=trodAll_cons r0
 obtain ⟨v2,vs2,d2,ds2,p2,q2,rfl,rfl,rfl,h2,r2⟩:=trodAll_cons r1
 obtain ⟨rfl,rfl,rfl⟩:=trodAll_nil r2
 obtain rfl:args=#[v0,v1,v2]:=by cases args;simp_all
 obtain ⟨rfl,rfl⟩:=trodVars_none hV
 have k0:=h0
 have lt0:∀ x∈p0,x.block < W.heap.size:=by obtain ⟨m,hm⟩:=k0;exact DataW.trod_lt m _ _ _ hm
 obtain ⟨c0,hc0⟩:=open_entries (hval 0 27 v0 rfl rfl) h0 (weights_each hsz (j:=0) rfl rfl)
 have k1:=h1
 have lt1:∀ x∈p1,x.block < W.heap.size:=by obtain ⟨m,hm⟩:=k1;exact DataW.trod_lt m _ _ _ hm
 obtain ⟨c1,hc1⟩:=open_entries (hval 1 27 v1 rfl rfl) h1 (weights_each hsz (j:=1) rfl rfl)
 obtain ⟨a2,rfl,rfl,rfl,w2⟩:=open_int Tryz.underlying3 (hval 2 3 v2 rfl rfl) h2
 clear hA0 hval0 hsz0 hsz
 refine (kernelNoops_any c0 v0 c1 v1 a2 W hc0 hc1).mono fun e W' ⟨he,bel⟩=>?_
 subst he
 exact ⟨_,rfl,_,_,_,[],_,[],hW',trodAll_mk1 (shut_bool Tryz.underlying4 _),⟨_,_,(Below.trod fc_laidOut (by kernel_rfl) (of_decide_eq_true (by kernel_rfl)) k0 bel lt0),⟨_,_,(Below.trod fc_laidOut (by kernel_rfl) (of_decide_eq_true (by kernel_rfl)) k1 bel lt1),⟨_,_,(shut_int Tryz.underlying3 w2),rfl,rfl⟩,rfl⟩,rfl⟩,rfl,bel.frame _,fun h=>by cases h⟩
theorem kernelNoops_named:Tryz.checked.prog.funcNamed Rows.kernelNoopsRow.func=some 5:=by kernel_rfl
theorem kernelNoops_wf:Rows.kernelNoopsRow.wf (OpenSpec.ofChange Rows.kernelNoopsSpec)=true:=by kernel_rfl
theorem kernelNoops_inPlace:(Rows.kernelNoopsRow.inPlace == Tryz.checked.prog.inPlace 5)=true:=by kernel_rfl
theorem kernelNoops_unf:(Rows.kernelNoopsRow.unfollowed == Tryz.checked.prog.unfollowed 5)=true:=by kernel_rfl
theorem kernelNoops_rec:(Rows.kernelNoopsRow.recurses == Tryz.checked.prog.recurses 5)=true:=by kernel_rfl
theorem kernelNoops_nam:(Rows.kernelNoopsRow.named == Tryz.checked.prog.varsNamed 5)=true:=by kernel_rfl
theorem kernelNoops_pk:(Rows.kernelNoopsRow.plainKeys == Tryz.checked.prog.plainKeys)=true:=by kernel_rfl
theorem kernelNoops_tie:namedTie Tryz.checked.prog Rows.kernelNoopsRow.named Rows.kernelNoopsSpec.vars=true:=by kernel_rfl
theorem kernelNoops_par:Tryz.f5.params.all (Tryz.checked.prog.readableRec ·)=true:=by kernel_rfl
theorem kernelNoops_facts:joinedFacts Tryz.checked.prog 5 Tryz.f5 Rows.kernelNoopsSpec Rows.kernelNoopsRow=true:=by
 have a1:=kernelNoops_wf
 have hl:(Rows.kernelNoopsRow.lifted == Tryz.checked.prog.liftsFinal)=true:=by rw [show Tryz.checked.prog.liftsFinal=false from fc_lifts];rfl
 have hm:(Tryz.checked.prog.make == some Rows.kernelNoopsRow.make)=true:=by rw [show Tryz.checked.prog.make=some Make.cut from fc_make];rfl
 unfold joinedFacts
 rw [kernelNoops_wf,kernelNoops_inPlace,kernelNoops_unf,kernelNoops_rec,kernelNoops_nam,kernelNoops_pk,kernelNoops_tie,kernelNoops_par,show laidOutB Tryz.checked.prog=true from fc_laidOut,show mapsRowed Tryz.checked.prog=true from fc_mapsRowed,show (Tryz.checked.prog.stops == [])=true from fc_stops,show (Tryz.checked.prog.stopKnobs == [])=true from fc_stopKnobs,show Tryz.checked.prog.stopsHeard=true from fc_heard,show Tryz.checked.prog.mayEnter=true from fc_mayEnter,hl,hm]
 show (_:Bool)=true
 kernel_rfl
theorem kernelNoops_holds:Rows.KernelNoopsSaid :=
 OpenClaim.holds_of_wide 5 Tryz.f5 rfl rfl rfl rfl rfl rfl rfl ⟨rfl,rfl,rfl,rfl,rfl⟩ rfl rfl rfl rfl rfl kernelNoops_named Tryz.func5 kernelNoops_facts
  (of_decide_eq_true (by kernel_rfl)) (by unfold Func.isWrapper;first | (rw [if_pos (by decide +kernel)];kernel_rfl) | (rw [if_neg (by decide +kernel)];exact ⟨rfl,rfl⟩))
  (fun os started H enc _=>kernelNoops_lifted os started H enc)
end Go.Proofs.YtooeeiiiflfckaaGreat
