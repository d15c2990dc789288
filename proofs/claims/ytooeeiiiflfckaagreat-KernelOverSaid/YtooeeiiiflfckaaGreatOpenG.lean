/- How an argument that reads as data is opened, whatever its type. -/
import Derived.Test.YtooeeiiiflfckaaGreatLibA
import Derived.Test.YtooeeiiiflfckaaGreatRows
import Derived.ProofKit
import Derived.OpenShut
import Derived.ChangeOld
import Derived.SizedLaws
set_option linter.unusedVariables false
set_option linter.unusedSimpArgs false
namespace Go.Proofs.YtooeeiiiflfckaaGreat
open Go.ChangeShapes Go.WideShapes Go.ChangeAt Go.RowKit
theorem own:ownKnob Tryz.prog.godebug=none:=by kernel_rfl
section
variable {H:Type} {enc:TypeId × Value->H} {P:Program} {W:World} {sp:Nat->Bool}
def Elem {α:Type} (enc:TypeId × Value->H) (P:Program) (W:World) (sp:Nat->Bool) (e:TypeId) (k:Nat) (Pat:World->Nat->Nat->α->Prop):Prop :=
 ∀ n cs y b off,DataW.trod enc P W 0 sp true n e cs=some y->(y.1.weights P e).all (·<=reachBytes)=true->(∀ j,j < k->W.cell? ⟨b,off+j,none⟩=cs[j]?)->∃ x:α,Pat W b off x
theorem pick_list {α:Type} (n:Nat) (Q:Nat->α->Prop) (h:∀ i,i < n->∃ x,Q i x):∃ xs:List α,xs.length=n/\∀ i (hi:i < xs.length),Q i xs[i]:=by
 induction n with
 | zero=>exact ⟨[],rfl,fun i hi=>absurd hi (by simp)⟩
 | succ n ih =>
  obtain ⟨xs,h1,h2⟩:=ih (fun i hi=>h i (by omega))
  obtain ⟨x,hx⟩:=h n (by omega)
  refine ⟨xs ++ [x],by simp [h1],fun i hi=>?_⟩
  by_cases hlt:i < xs.length
  ·rw [List.getElem_append_left hlt];exact h2 i hlt
  ·have:i=n:=by simp at hi;omega
   subst this
   rw [List.getElem_append_right (by omega)]
   simpa [h1] using hx
theorem weights_all {e:TypeId} {l:List (DataW H)} (h:(DataW.weightsAll P e l).all (·<=reachBytes)=true) {i:Nat} {d:DataW H} (hi:l[i]?=some d):(d.weights P e).all (·<=reachBytes)=true:=by
 induction l generalizing i with
 | nil=>simp at hi
 | cons a r ih =>
  simp only [DataW.weightsAll,List.all_append,Bool.and_eq_true] at h
  cases i with
  | zero=>simp at hi;subst hi;exact h.1
  | succ i=>exact ih h.2 (by simpa using hi)
theorem open_sliceAt {α:Type} {Pat:World->Nat->Nat->α->Prop} {t e:TypeId} {k B n:Nat} {v:Value} {y:DataW H × List MemPlace} (ht:P.underlying t=some (.slice e)) (hk:P.cellsOf e=k) (hB:P.bytesOf e=B) (hk0:0 < k)
  (hel:Elem enc P W sp e k Pat) (h:DataW.trod enc P W 0 sp true n t [v]=some y) (hw:(y.1.weights P t).all (·<=reachBytes)=true):∃ xs,SliceAt Pat k B W v xs:=by
 rcases DataW.trod_slice ht h with ⟨h1,-⟩ | ⟨a,len,cap,elems,rest,m,-,h1,hy,-,hl,hm,hlen,hi,-,-⟩
 ·simp only [List.cons.injEq,and_true] at h1
  subst h1
  exact ⟨[],none,0,rfl,by simp,by simp,by simp,fun h=>absurd rfl h⟩
 ·simp only [List.cons.injEq,and_true] at h1
  subst h1
  rw [hy] at hw
  simp only [DataW.weights,ht,List.all_cons,List.all_append,Bool.and_eq_true,decide_eq_true_eq,List.length_map] at hw
  obtain ⟨hw1,hw2,-⟩:=hw
  have hlB:len*B<=140737488351232:=by
   rw [hB] at hw1
   refine Nat.le_trans (Nat.mul_le_mul_right _ ?_) hw1
   omega
  have hget:∀ i,i < len->∃ cs el,W.cells? 0 (a.add (i*k)) k=some cs/\DataW.trod enc P W 0 sp true m e cs=some el/\(el.1.weights P e).all (·<=reachBytes)=true:=by
   intro i hil
   have:=hi i hil
   rw [hk,List.getElem?_eq_getElem (by omega),Option.bind_eq_some_iff] at this
   obtain ⟨cs,hc,htr⟩:=this
   exact ⟨cs,_,hc,htr,weights_all hw2 (i:=i) (by simp [List.getElem?_map,List.getElem?_eq_getElem (show i < elems.length by omega)])⟩
  by_cases h0:len=0
  ·subst h0
   exact ⟨[],some a,cap,rfl,by simp,by simp,hm,fun h=>absurd rfl h⟩
  ·obtain ⟨b,off,s⟩:=a
   have hs:s=none:=by
    obtain ⟨cs,el,hc,-⟩:=hget 0 (by omega)
    obtain ⟨-,hcl,hat⟩:=World.cells?_some hc
    have:=hat 0 hk0
    rw [List.getElem?_eq_getElem (by omega)] at this
    cases s with
    | none=>rfl
    | some q =>
     exfalso
     simp [World.cell?,Addr.add] at this
     split at this <;> simp at this
   subst hs
   obtain ⟨xs,hx1,hx2⟩:=pick_list len (fun i x=>Pat W b (off+i*k) x) (fun i hil=>by
    obtain ⟨cs,el,hc,htr,hww⟩:=hget i hil
    obtain ⟨-,hcl,hat⟩:=World.cells?_some hc
    exact hel m cs el b (off+i*k) htr hww (fun j hj=>by rw [<-hat j hj,addr_add,addr_add]))
   exact ⟨xs,some ⟨b,off,none⟩,cap,by rw [hx1],by rw [hx1];exact hlB,by omega,hm,fun _=>⟨b,off,rfl,fun i hil=>hx2 i hil⟩⟩
theorem weights_each {ts:List TypeId} {ds:List (DataW H)} (h:(DataW.weightsEach P ts ds).all (·<=reachBytes)=true) {j:Nat} {t:TypeId} {d:DataW H} (ht:ts[j]?=some t) (hd:ds[j]?=some d):(d.weights P t).all (·<=reachBytes)=true:=by
 rw [List.all_eq_true] at h |-
 intro n hn
 exact h n (DataW.weights_mem_each ht hd n hn)
theorem fields_of {t:TypeId} {fs:Array Field} {n k:Nat} {cs:List Value} {y:DataW H × List MemPlace} (hs:P.underlying t=some (.struct fs)) (hC:P.cellsOf t=k) (h:DataW.trod enc P W 0 sp true n t cs=some y) (hw:(y.1.weights P t).all (·<=reachBytes)=true) :
  cs.length=k/\∃ m,∀ i (f:Field),fs[i]?=some f->f.offset=i->P.cellsOf f.type=1->i < k->∃ v z,cs[i]?=some v/\DataW.trod enc P W 0 sp true m f.type [v]=some z/\(z.1.weights P f.type).all (·<=reachBytes)=true:=by
 obtain ⟨xs,m,-,hy,hcl,hlen,hg⟩:=DataW.trod_struct hs h
 rw [hC] at hcl
 refine ⟨hcl,m,fun i f hf ho hc hik=>?_⟩
 have h1:=hg i f hf
 rw [ho,hc] at h1
 have hone:(cs.drop i).take 1=[cs[i]]:=by
  rw [List.drop_eq_getElem_cons (by omega)]
  rfl
 rw [hone] at h1
 have hi:i < xs.length:=by rw [hlen];exact (Array.getElem?_eq_some_iff.1 hf).1
 rw [List.getElem?_eq_getElem hi] at h1
 refine ⟨_,_,List.getElem?_eq_getElem (by omega),h1,?_⟩
 rw [hy] at hw
 simp only [DataW.weights,hs] at hw
 have hff:fs.toList[i]?=some f:=by rw [<-hf];simp
 exact weights_each hw (j:=i) (by rw [List.getElem?_map,hff];rfl) (by simp [List.getElem?_eq_getElem hi])
theorem int_of {t:TypeId} {k:IntKind} {m:Nat} {v:Value} {z:DataW H × List MemPlace} (ht:P.underlying t=some (.int k)) (h:DataW.trod enc P W 0 sp true m t [v]=some z):∃ x,v=.int k x:=by
 obtain ⟨x,hx,-⟩:=DataW.trod_int ht h
 exact ⟨x,by simpa using hx⟩
end
section
variable {H:Type} {enc:TypeId × Value->H} {W:World} {sp:Nat->Bool}
theorem c3:Tryz.prog.cellsOf 3=1:=by kernel_rfl
end
end Go.Proofs.YtooeeiiiflfckaaGreat
