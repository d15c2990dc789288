/- KernelNoops, plainly. -/
import Derived.Test.YtooeeiiiflfckaaGreatRunP
import Derived.Test.YtooeeiiiflfckaaGreatAwkP
set_option linter.unusedVariables false
set_option linter.unusedSimpArgs false
namespace Go.Proofs.YtooeeiiiflfckaaGreat
open Go.RowKit
def nV (e:Entry):Entry:=⟨3+e.at_ % 64,e.kind,e.part,e.task,e.value⟩
def nX (es:List Entry) (k:Nat):List Entry:=(es.take k).map nV
def nBad (i:Nat) (x:Entry):List Entry:=[⟨3+i,2+x.kind % 8,x.part,x.task,x.value⟩,⟨2+i,0,1,0,1⟩,⟨3+i,0,2+x.part % 8,0,1⟩,⟨3+i,0,0,1,1⟩]
def nMore (bad:List Entry) (i j:Nat):List Entry:=match bad[j]? with | some x=>nBad i x | none=>[]
def nY (es bad:List Entry) (i:Nat):Nat->List Entry
 | 0=>[]
 | k+1=>nY es bad i k ++ (match es[k]? with | some e=>nV e::nMore bad i k | none=>[])
theorem nX_succ {es:List Entry} {k:Nat} (h:k < es.length):nX es (k+1)=nX es k ++ [nV es[k]]:=by
 unfold nX
 rw [List.take_add_one,List.getElem?_eq_getElem h,List.map_append]
 rfl
theorem nY_len (es bad:List Entry) (i:Nat):∀ k,(nY es bad i k).length<=5*k
 | 0=>by simp [nY]
 | k+1=>by
  have ih:=nY_len es bad i k
  unfold nY
  rw [List.length_append]
  have:(match es[k]? with | some e=>nV e::nMore bad i k | none=>[]).length<=5:=by
   split
   ·unfold nMore
    split <;> simp [nBad]
   ·simp
  omega
theorem enter_no {K:KSt} {e:Entry} (h:e.at_≠K.now∨fits K.cfg e=false):enterK K e=(K,[]):=by
 unfold enterK
 rw [if_pos h]
theorem enters_no {es:List Entry}:∀ {K:KSt},(∀ e∈es,e.at_≠K.now∨fits K.cfg e=false)->entersK K es=(K,[]):=by
 induction es with
 | nil=>intro K _;rfl
 | cons e r ih =>
  intro K h
  simp only [entersK,enter_no (h e (by simp))]
  rw [ih (fun x hx=>h x (List.mem_cons_of_mem _ hx))]
  rfl
theorem entersK_append (a b:List Entry):∀ (K:KSt),entersK K (a ++ b)=((entersK (entersK K a).1 b).1,(entersK K a).2 ++ (entersK (entersK K a).1 b).2):=by
 induction a with
 | nil=>intro K;simp [entersK]
 | cons e r ih =>
  intro K
  simp only [List.cons_append,entersK,ih,List.append_assoc]
theorem nBad_no (i:Nat) (x:Entry) {K:KSt} (hn:K.now=3+i) (hc:K.cfg=plainCfg):∀ e∈nBad i x,e.at_≠K.now∨fits K.cfg e=false:=by
 intro e he
 unfold nBad at he
 simp only [List.mem_cons,List.not_mem_nil,or_false] at he
 rw [hc,hn]
 have hp:plainCfg.parts.length=2:=rfl
 rcases he with rfl | rfl | rfl | rfl
 ·right
  unfold fits
  split
  ·rfl
  ·have:=Int.emod_nonneg x.kind (show (8:Int)≠0 by decide)
   rw [if_neg (by simp only;omega),if_neg (by simp only;omega)]
 ·left;simp only;omega
 ·right
  unfold fits
  have:=Int.emod_nonneg x.part (show (8:Int)≠0 by decide)
  rw [if_pos (by simp only [hp];right;right;push_cast;omega)]
 ·right
  unfold fits
  split
  ·rfl
  ·rw [if_pos rfl]
   rfl
theorem nY_enters (es bad:List Entry) (i:Nat) {K:KSt} (hn:K.now=3+i) (hc:K.cfg=plainCfg):∀ k,k<=es.length->entersK K (nY es bad i k)=entersK K (nX es k)
 | 0,_=>by simp [nY,nX]
 | k+1,h=>by
  have ih:=nY_enters es bad i hn hc k (by omega)
  have hk:k < es.length:=by omega
  rw [nX_succ hk]
  unfold nY
  rw [List.getElem?_eq_getElem hk]
  simp only
  rw [show nV es[k]::nMore bad i k=[nV es[k]] ++ nMore bad i k from rfl,<-List.append_assoc,entersK_append,entersK_append _ [nV es[k]],ih,<-entersK_append]
  have hs:=(entersK_same (nX es k ++ [nV es[k]]) K).1
  have hz:entersK (entersK K (nX es k ++ [nV es[k]])).1 (nMore bad i k)=((entersK K (nX es k ++ [nV es[k]])).1,[]):=by
   unfold nMore
   split
   ·exact enters_no (nBad_no i _ (by rw [hs.now,hn]) (by rw [hs.cfg,hc]))
   ·rfl
  rw [hz]
  simp
theorem tick_same {K:KSt} {a b:List Entry} (he:∀ K',K'.now=K.now->K'.cfg=K.cfg->entersK K' a=entersK K' b) (ha:a.length<=512) (hb:b.length<=512):tickK K a=tickK K b/\tickE K a=tickE K b:=by
 have h1:tickE K a=tickE K b:=by
  unfold tickE
  rw [if_neg (show ¬ 512 < a.length by omega),if_neg (show ¬ 512 < b.length by omega)]
 refine ⟨?_,h1⟩
 have h2:=boundK_same K
 unfold tickK
 rw [h1]
 simp only [he (boundK K).1 h2.2.2.1 h2.2.1]
def nM (es:List Entry):Nat:=min es.length 30
def nK (es:List Entry):Nat->KSt:=runK (newK plainCfg 3) (fun _=>nX es (nM es))
theorem nX_len (es:List Entry) (k:Nat):(nX es k).length<=k:=by unfold nX;simp;omega
theorem nK_now (es:List Entry):∀ i,i<=60->(nK es i).now=3+i/\(nK es i).cfg=plainCfg
 | 0,_=>⟨rfl,rfl⟩
 | i+1,h=>by
  obtain ⟨h1,h2⟩:=nK_now es i (by omega)
  have h0:tickE (nK es i) (nX es (nM es))=0:=by
   unfold tickE
   have:=nX_len es (nM es)
   rw [if_neg (by omega),if_neg (by unfold nM at *;omega)]
  have:=tickK_same h0
  exact ⟨by show (tickK (nK es i) (nX es (nM es))).1.now=_;rw [this.2.2.1,h1];push_cast;omega,by show (tickK (nK es i) (nX es (nM es))).1.cfg=_;rw [this.2.1,h2]⟩
theorem nK_tick (es bad:List Entry) {i:Nat} (hi:i < 60):tickE (nK es i) (nX es (nM es))=0/\tickK (nK es i) (nY es bad i (nM es))=tickK (nK es i) (nX es (nM es))/\tickE (nK es i) (nY es bad i (nM es))=0:=by
 obtain ⟨h1,h2⟩:=nK_now es i (by omega)
 have l1:=nX_len es (nM es)
 have l2:=nY_len es bad i (nM es)
 have hm:nM es<=30:=by unfold nM;omega
 have hm2:nM es<=es.length:=by unfold nM;omega
 have h0:tickE (nK es i) (nX es (nM es))=0:=by
  unfold tickE
  rw [if_neg (by omega),if_neg (by omega)]
 have hs:=tick_same (K:=nK es i) (a:=nY es bad i (nM es)) (b:=nX es (nM es)) (fun K' q1 q2=>nY_enters es bad i (q1.trans h1) (q2.trans h2) _ hm2) (by omega) (by omega)
 exact ⟨h0,hs.1,hs.2.trans h0⟩
end Go.Proofs.YtooeeiiiflfckaaGreat
