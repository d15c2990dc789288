/- KernelShift, plainly: the law's two kernels. -/
import Derived.Test.YtooeeiiiflfckaaGreatShiQ
import Derived.Test.YtooeeiiiflfckaaGreatKbZ
set_option linter.unusedVariables false
set_option linter.unusedSimpArgs false
namespace Go.Proofs.YtooeeiiiflfckaaGreat
open Go.RowKit
def sV (e:Entry):Entry:=⟨e.at_ % 128,e.kind,e.part,e.task,e.value⟩
def sX (es:List Entry) (k:Nat):List Entry:=(es.take k).map sV
def sM (es:List Entry):Nat:=min es.length 40
def sK (es:List Entry):Nat->KSt:=runK (newK plainCfg 0) (fun _=>sX es (sM es))
theorem sX_succ {es:List Entry} {k:Nat} (h:k < es.length):sX es (k+1)=sX es k ++ [sV es[k]]:=by
 unfold sX
 rw [List.take_add_one,List.getElem?_eq_getElem h,List.map_append]
 rfl
theorem sX_len {es:List Entry} {k:Nat} (h:k<=es.length):(sX es k).length=k:=by unfold sX;simp;omega
theorem s_new (k:Int):newK plainCfg k=shK k (newK plainCfg 0):=by
 unfold shK newK
 simp only [Int.zero_add,List.map_map,KSt.mk.injEq,true_and,and_true]
 apply List.map_congr_left
 intro i _
 simp [shS,shL,shR,shT,newL,Function.comp_def]
theorem s_all (es:List Entry) {y:Nat} (hy:y<=65535):∀ i,i<=80->KOk (sK es i) (48*i)/\KOk (shK (10*y:Nat) (sK es i)) (48*i)/\TPk (10*y:Nat) (sK es i)/\(sK es i).now=i/\(sK es i).cfg=plainCfg /\
  (i < 80->tickE (sK es i) (sX es (sM es))=0/\tickE (shK (10*y:Nat) (sK es i)) ((sX es (sM es)).map (shE (10*y:Nat)))=0/\tickK (shK (10*y:Nat) (sK es i)) ((sX es (sM es)).map (shE (10*y:Nat)))=(shK (10*y:Nat) (sK es (i+1)),{ (tickK (sK es i) (sX es (sM es))).2 with tick:=(tickK (sK es i) (sX es (sM es))).2.tick+(10*y:Nat) })):=by
 have hl:(sX es (sM es)).length<=40:=by rw [sX_len (by unfold sM;omega)];unfold sM;omega
 have hmd:((10*y:Nat):Int) % 10=0:=by omega
 have step:∀ i,i<=80->KOk (sK es i) (48*i)->KOk (shK (10*y:Nat) (sK es i)) (48*i)->TPk (10*y:Nat) (sK es i)->(sK es i).now=i->(sK es i).cfg=plainCfg ->
   (i < 80->tickE (sK es i) (sX es (sM es))=0/\tickE (shK (10*y:Nat) (sK es i)) ((sX es (sM es)).map (shE (10*y:Nat)))=0/\tickK (shK (10*y:Nat) (sK es i)) ((sX es (sM es)).map (shE (10*y:Nat)))=(shK (10*y:Nat) (sK es (i+1)),{ (tickK (sK es i) (sX es (sM es))).2 with tick:=(tickK (sK es i) (sX es (sM es))).2.tick+(10*y:Nat) })/\TPk (10*y:Nat) (sK es (i+1))):=by
  intro i hi h1 h2 h3 h4 h5 hlt
  have t1:tickE (sK es i) (sX es (sM es))=0:=by
   unfold tickE
   rw [if_neg (by omega),if_neg (by omega)]
  have t2:tickE (shK (10*y:Nat) (sK es i)) ((sX es (sM es)).map (shE (10*y:Nat)))=0:=by
   unfold tickE
   rw [if_neg (by show ¬ (sK es i).now+((10*y:Nat):Int)=1099511627776;omega),if_neg (by simp;omega)]
  obtain ⟨a1,a2⟩:=sh_tick (k:=((10*y:Nat):Int)) (by omega) h1 h2 h3 (by rw [h5];exact hmd) t1 t2
  exact ⟨t1,t2,a1,a2⟩
 intro i
 induction i with
 | zero =>
  intro _
  have g1:KOk (sK es 0) (48*((0:Nat):Int)):=newK_ok (admit_cfg plain_admit) (by decide)
  have g2:KOk (shK (10*y:Nat) (sK es 0)) (48*((0:Nat):Int)):=by
   show KOk (shK (10*y:Nat) (newK plainCfg 0)) _
   rw [<-s_new]
   exact newK_ok (admit_cfg plain_admit) (by unfold clockB;exact decide_eq_true (by omega))
  have g3:TPk (10*y:Nat) (sK es 0):=by
   intro i hi
   have hi2:i=0∨i=1:=by
    have:(sK es 0).seats.length=2:=rfl
    omega
   rcases hi2 with rfl | rfl
   ·intro r hr
    have:r=⟨⟨0,10,10,2,4,1⟩,⟨-1,[]⟩,0⟩:=by simpa [sK,runK,newK,plainCfg,newL,KSt.seat] using hr
    subst this
    intro _
    exact hmd
   ·intro r hr
    have:r=⟨⟨1,5,5,3,3,0⟩,⟨-1,[]⟩,0⟩:=by simpa [sK,runK,newK,plainCfg,newL,KSt.seat] using hr
    subst this
    intro h
    cases h
  exact ⟨g1,g2,g3,rfl,rfl,fun h=>by obtain ⟨a,b,c,-⟩:=step 0 (by omega) g1 g2 g3 rfl rfl h;exact ⟨a,b,c⟩⟩
 | succ i ih =>
  intro h
  obtain ⟨h1,h2,h3,h4,h5,-⟩:=ih (by omega)
  obtain ⟨t1,t2,t3,t4⟩:=step i (by omega) h1 h2 h3 h4 h5 (by omega)
  have hs:=tickK_same t1
  have g1:KOk (sK es (i+1)) (48*((i+1:Nat):Int)):=by
   have:=tickK_ok h1 (sX es (sM es))
   rw [show (48:Int)*((i+1:Nat):Int)=48*(i:Int)+48 by omega]
   exact this
  have g2:KOk (shK (10*y:Nat) (sK es (i+1))) (48*((i+1:Nat):Int)):=by
   have:=tickK_ok h2 ((sX es (sM es)).map (shE (10*y:Nat)))
   rw [t3] at this
   rw [show (48:Int)*((i+1:Nat):Int)=48*(i:Int)+48 by omega]
   exact this
  have g4:(sK es (i+1)).now=((i+1:Nat):Int):=by
   show (tickK (sK es i) (sX es (sM es))).1.now=_
   rw [hs.2.2.1,h4]
   omega
  have g5:(sK es (i+1)).cfg=plainCfg:=by
   show (tickK (sK es i) (sX es (sM es))).1.cfg=_
   rw [hs.2.1,h5]
  exact ⟨g1,g2,t4,g4,g5,fun h=>by obtain ⟨a,b,c,-⟩:=step (i+1) (by omega) g1 g2 t4 g4 g5 h;exact ⟨a,b,c⟩⟩
end Go.Proofs.YtooeeiiiflfckaaGreat
