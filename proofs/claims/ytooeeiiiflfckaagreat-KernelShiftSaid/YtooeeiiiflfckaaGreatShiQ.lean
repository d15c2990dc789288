/- KernelShift, plainly: a whole tick. -/
import Derived.Test.YtooeeiiiflfckaaGreatShiP
set_option linter.unusedVariables false
set_option linter.unusedSimpArgs false
namespace Go.Proofs.YtooeeiiiflfckaaGreat
open Go.RowKit
def TPk (k:Int) (K:KSt):Prop:=∀ i,i < K.seats.length->TPs k (K.seat i).loc
theorem shK_len (k:Int) (K:KSt):(shK k K).seats.length=K.seats.length:=by simp [shK]
theorem shK_seat {k:Int} {K:KSt} {i:Nat} (hi:i < K.seats.length):(shK k K).seat i=shS k (K.seat i):=by
 unfold KSt.seat shK
 simp [List.getD_eq_getElem?_getD,hi]
theorem shK_set (k:Int) (K:KSt) (i:Nat) (s:SSt):(shK k K).setSeat i (shS k s)=shK k (K.setSeat i s):=by
 unfold KSt.setSeat shK
 simp
theorem TPk.set {k:Int} {K:KSt} (h:TPk k K) {i:Nat} (hi:i < K.seats.length) {s:SSt} (hs:TPs k s.loc):TPk k (K.setSeat i s):=by
 intro j hj
 rw [seats_set] at hj
 rw [seat_set K i j s hi]
 split
 ·exact hs
 ·exact h j hj
theorem sh_ready (k:Int) (s:SSt):(shS k s).ready=s.ready:=by
 unfold SSt.ready shS shL
 simp
theorem sh_mod {k f now:Int} (h:k % f=0):(now+k) % f=now % f:=by
 rw [Int.add_emod,h,Int.add_zero,Int.emod_emod_of_dvd _ (Int.dvd_refl _)]
theorem sh_bound {k:Int} {K:KSt} (hf:k % K.cfg.frame=0):boundK (shK k K)=(shK k (boundK K).1,(boundK K).2):=by
 have hany:(shK k K).seats.any (fun s=>decide (s.lvl=1) && s.ready)=K.seats.any (fun s=>decide (s.lvl=1) && s.ready):=by
  unfold shK
  simp only [List.any_map]
  congr 1
  funext s
  show (decide ((shS k s).lvl=1) && (shS k s).ready)=_
  rw [sh_ready]
  rfl
 have hc:((shK k K).now % (shK k K).cfg.frame≠0∨(shK k K).now=(shK k K).start) ↔ (K.now % K.cfg.frame≠0∨K.now=K.start):=by
  show ((K.now+k) % K.cfg.frame≠0∨K.now+k=K.start+k) ↔ _
  rw [sh_mod hf]
  constructor <;> rintro (q | q) <;> first | exact .inl q | (right;omega)
 unfold boundK
 by_cases h:K.now % K.cfg.frame≠0∨K.now=K.start
 ·rw [if_pos h,if_pos (hc.2 h)]
 ·rw [if_neg h,if_neg (fun q=>h (hc.1 q)),hany]
  rfl
theorem sh_fits {k:Int} {c:Config} {e:Entry} (h:clockB e.at_=true) (h':clockB (e.at_+k)=true):fits c (shE k e)=fits c e:=by
 unfold fits shE
 simp only [h,h']
theorem sh_enter {k m m':Int} (hk:0<=k) {K:KSt} (h:KOk K m) (h':KOk (shK k K) m') (hd:TPk k K) (e:Entry):enterK (shK k K) (shE k e)=(shK k (enterK K e).1,(enterK K e).2)/\TPk k (enterK K e).1:=by
 by_cases ha:e.at_=K.now
 ·have hc:=h.clk
  have hc':=h'.clk
  have hfit:=sh_fits (k:=k) (c:=K.cfg) (e:=e) (by rw [ha];exact hc) (by rw [ha];exact hc')
  cases hf:fits K.cfg e
  ·have e1:enterK K e=(K,[]):=by unfold enterK;rw [if_pos (.inr hf)]
   have e2:enterK (shK k K) (shE k e)=(shK k K,[]):=by unfold enterK;rw [if_pos (.inr (hfit.trans hf))]
   rw [e1,e2]
   exact ⟨rfl,hd⟩
  ·have hp:=fits_part hf
   have hi:e.part.toNat < K.seats.length:=by have:=h.len;omega
   have hl:=h.loc _ hi
   have hl':=h'.loc e.part.toNat (by rw [shK_len];exact hi)
   rw [shK_seat hi] at hl'
   obtain ⟨p1,p2,p3⟩:=sh_pick hk hl hl' (hd _ hi) hc hc' e.task e.value
   have n1:¬ (e.at_≠K.now∨fits K.cfg e=false):=by rw [hf];simp [ha]
   have n2:¬ ((shE k e).at_≠(shK k K).now∨fits (shK k K).cfg (shE k e)=false):=by
    rintro (q | q)
    ·exact q (by show e.at_+k=K.now+k;omega)
    ·have:fits K.cfg (shE k e)=false:=q
     rw [hfit,hf] at this
     cases this
   unfold enterK
   rw [if_neg n1,if_neg n2]
   show (if e.kind=1 then _ else _)=_/\_
   by_cases hkd:e.kind=1
   ·rw [if_pos hkd,if_pos hkd]
    refine ⟨?_,hd.set hi (hd _ hi)⟩
    show ((shK k K).setSeat e.part.toNat { (shK k K).seat e.part.toNat with inp:=pushQ 16 ((shK k K).seat e.part.toNat).inp e.value },([]:List Event))=_
    rw [shK_seat hi]
    show ((shK k K).setSeat e.part.toNat (shS k { K.seat e.part.toNat with inp:=pushQ 16 (K.seat e.part.toNat).inp e.value }),([]:List Event))=_
    rw [shK_set]
   ·rw [if_neg hkd,if_neg hkd]
    refine ⟨?_,hd.set hi p3⟩
    show ((shK k K).setSeat e.part.toNat { (shK k K).seat e.part.toNat with loc:=pickSt ((shK k K).seat e.part.toNat).loc e.task e.value (K.now+k) },pickEv ((shK k K).seat e.part.toNat).loc e.task e.value (K.now+k))=_
    rw [shK_seat hi]
    show ((shK k K).setSeat e.part.toNat { shS k (K.seat e.part.toNat) with loc:=pickSt (shL k (K.seat e.part.toNat).loc) e.task e.value (K.now+k) },pickEv (shL k (K.seat e.part.toNat).loc) e.task e.value (K.now+k))=_
    rw [p1,p2]
    show ((shK k K).setSeat e.part.toNat (shS k { K.seat e.part.toNat with loc:=pickSt (K.seat e.part.toNat).loc e.task e.value K.now }),_)=_
    rw [shK_set]
 ·have e1:enterK K e=(K,[]):=by unfold enterK;rw [if_pos (.inl ha)]
  have e2:enterK (shK k K) (shE k e)=(shK k K,[]):=by
   unfold enterK
   rw [if_pos (.inl (by show e.at_+k≠K.now+k;omega))]
  rw [e1,e2]
  exact ⟨rfl,hd⟩
theorem sh_enters {k m m':Int} (hk:0<=k) (es:List Entry):∀ {K:KSt},KOk K m->KOk (shK k K) m'->TPk k K->entersK (shK k K) (es.map (shE k))=(shK k (entersK K es).1,(entersK K es).2)/\TPk k (entersK K es).1:=by
 induction es with
 | nil=>intro K h h' hd;exact ⟨rfl,hd⟩
 | cons e r ih =>
  intro K h h' hd
  obtain ⟨a1,a2⟩:=sh_enter hk h h' hd e
  have g1:=enterK_ok h e
  have g2:=enterK_ok h' (shE k e)
  rw [a1] at g2
  obtain ⟨b1,b2⟩:=ih g1 g2 a2
  simp only [List.map_cons,entersK]
  rw [a1]
  simp only
  rw [b1]
  exact ⟨rfl,b2⟩
theorem sh_begins {k m m':Int} (hk:0<=k) {K:KSt} (h:KOk K m) (h':KOk (shK k K) m') (hd:TPk k K):∀ n,n<=K.seats.length->beginsK (shK k K) n=(shK k (beginsK K n).1,(beginsK K n).2)/\TPk k (beginsK K n).1
 | 0,_=>⟨rfl,hd⟩
 | n+1,hn=>by
  obtain ⟨a1,a2⟩:=sh_begins hk h h' hd n (by omega)
  have g1:=beginsK_ok h n (by omega)
  have g2:=beginsK_ok h' n (by rw [shK_len];omega)
  rw [a1] at g2
  have hl:n < (beginsK K n).1.seats.length:=by rw [(beginsK_same K n).1.len];omega
  have l1:=g1.loc n hl
  have l2:=g2.loc n (by rw [shK_len];exact hl)
  rw [shK_seat hl] at l2
  obtain ⟨b1,b2,b3⟩:=sh_begin hk l1 l2 (a2 n hl) h.clk h'.clk
  simp only [beginsK]
  rw [a1]
  simp only
  rw [shK_seat hl]
  refine ⟨?_,a2.set hl b3⟩
  show ((shK k (beginsK K n).1).setSeat n { shS k ((beginsK K n).1.seat n) with loc:=begS (shL k ((beginsK K n).1.seat n).loc) (K.now+k) },(beginsK K n).2 ++ begE (shL k ((beginsK K n).1.seat n).loc) (K.now+k))=_
  rw [b1,b2]
  show ((shK k (beginsK K n).1).setSeat n (shS k { (beginsK K n).1.seat n with loc:=begS ((beginsK K n).1.seat n).loc K.now }),_)=_
  rw [shK_set]
theorem sh_pending (k:Int) (K:KSt):pendingK (shK k K)=pendingK K:=by
 unfold pendingK
 rw [shK_len]
 congr 1
 apply List.filter_congr
 intro i hi
 have:=List.mem_range.1 hi
 rw [shK_seat this,sh_ready]
 rfl
theorem sh_owner {k m:Int} {K:KSt} (h:KOk K m) (hf:k % K.cfg.frame=0):ownerK (shK k K)=(shK k (ownerK K).1,(ownerK K).2):=by
 have hw:=ownerAt_lt h.cfg (K.now % K.cfg.frame)
 have hlen:=h.len
 unfold ownerK
 simp only
 show (if ownerAt ((K.now+k) % K.cfg.frame) K.cfg.windows < 0∨((shK k K).seat (ownerAt ((K.now+k) % K.cfg.frame) K.cfg.windows).toNat).lvl=0/\K.mode.level=1 then (shK k K,-1,false) else _)=_
 rw [show (shK k K).now % (shK k K).cfg.frame=K.now % K.cfg.frame from sh_mod hf,sh_mod hf]
 show (if ownerAt (K.now % K.cfg.frame) K.cfg.windows < 0∨((shK k K).seat (ownerAt (K.now % K.cfg.frame) K.cfg.windows).toNat).lvl=0/\K.mode.level=1 then (shK k K,-1,false) else if ((shK k K).seat (ownerAt (K.now % K.cfg.frame) K.cfg.windows).toNat).ready=true then _ else _)=_
 by_cases h0:ownerAt (K.now % K.cfg.frame) K.cfg.windows < 0
 ·rw [if_pos (.inl h0),if_pos (.inl h0)]
 ·have hi:(ownerAt (K.now % K.cfg.frame) K.cfg.windows).toNat < K.seats.length:=by omega
  rw [shK_seat hi]
  show (if ownerAt (K.now % K.cfg.frame) K.cfg.windows < 0∨(K.seat (ownerAt (K.now % K.cfg.frame) K.cfg.windows).toNat).lvl=0/\K.mode.level=1 then (shK k K,-1,false) else if (shS k (K.seat (ownerAt (K.now % K.cfg.frame) K.cfg.windows).toNat)).ready=true then _ else _)=_
  rw [sh_ready]
  split
  ·rfl
  ·split
   ·rfl
   ·rw [sh_pending]
    simp only [show (shK k K).cfg=K.cfg from rfl,show (shK k K).led=K.led from rfl]
    rw [shK_seat hi]
    rfl
theorem sh_outside {k:Int} {K:KSt} {i:Nat} (hi:i < K.seats.length) (f:Eff):outsideK (shK k K) i f=(shK k (outsideK K i f).1,(outsideK K i f).2):=by
 have e1:(if f.took=true then (shK k K).setSeat i { (shK k K).seat i with inp:=((shK k K).seat i).inp.tail } else shK k K)=shK k (if f.took=true then K.setSeat i { K.seat i with inp:=(K.seat i).inp.tail } else K):=by
  split
  ·rw [shK_seat hi]
   show (shK k K).setSeat i (shS k { K.seat i with inp:=(K.seat i).inp.tail })=_
   rw [shK_set]
  ·rfl
 unfold outsideK
 simp only
 rw [e1]
 generalize (if f.took=true then K.setSeat i { K.seat i with inp:=(K.seat i).inp.tail } else K)=K1
 have e2:(if 0<=f.get then { shK k K1 with ports:=tSt (shK k K1).ports i f.get } else shK k K1)=shK k (if 0<=f.get then { K1 with ports:=tSt K1.ports i f.get } else K1):=by
  split <;> rfl
 rw [e2]
 generalize (if 0<=f.get then { K1 with ports:=tSt K1.ports i f.get } else K1)=K2
 split <;> rfl
theorem sh_chargeK {k m:Int} {K:KSt} (h:KOk K m) (hd:TPk k K) {i:Nat} (hi:i < K.seats.length):chargeK (shK k K) i=(shK k (chargeK K i).1,(chargeK K i).2)/\TPk k (chargeK K i).1:=by
 obtain ⟨a1,a2,a3,a4,-⟩:=sh_charge (h.loc i hi) (hd i hi)
 have e0:((shK k K).seat i).loc=shL k (K.seat i).loc:=by rw [shK_seat hi];rfl
 have e1:(shK k K).setSeat i { (shK k K).seat i with loc:=runS ((shK k K).seat i).loc }=shK k (K.setSeat i { K.seat i with loc:=runS (K.seat i).loc }):=by
  rw [shK_seat hi]
  show (shK k K).setSeat i { shS k (K.seat i) with loc:=runS (shL k (K.seat i).loc) }=_
  rw [a2]
  exact shK_set k K i { K.seat i with loc:=runS (K.seat i).loc }
 have hset:=hd.set hi (s:={ K.seat i with loc:=runS (K.seat i).loc }) a4
 unfold chargeK
 simp only
 rw [e0,a1,a3,show ({ (shK k K).seat i with loc:=runS (shL k (K.seat i).loc) }:SSt)={ (shK k K).seat i with loc:=runS ((shK k K).seat i).loc } by rw [e0],e1]
 split
 ·exact ⟨rfl,hset⟩
 ·exact ⟨rfl,hset⟩
theorem sh_step {k m:Int} {K:KSt} (h:KOk K m) (hd:TPk k K) {i:Nat} (hi:i < K.seats.length):stepK (shK k K) i=(shK k (stepK K i).1,(stepK K i).2)/\TPk k (stepK K i).1:=by
 obtain ⟨-,-,-,-,f1,f2⟩:=sh_charge (h.loc i hi) (hd i hi)
 obtain ⟨r,hr⟩:∃ r,r=stepV (K.seat i).code (K.seat i).vm ((K.seat i).inp.headD 0) (outsS K.ports i) (getsS K.ports i):=⟨_,rfl⟩
 have hr':stepV ((shK k K).seat i).code ((shK k K).seat i).vm (((shK k K).seat i).inp.headD 0) (outsS (shK k K).ports i) (getsS (shK k K).ports i)=r:=by
  rw [shK_seat hi,hr]
  rfl
 have e0:((shK k K).seat i).loc=shL k (K.seat i).loc:=by rw [shK_seat hi];rfl
 have e1:(shK k K).setSeat i { (shK k K).seat i with vm:=r.1 }=shK k (K.setSeat i { K.seat i with vm:=r.1 }):=by
  rw [shK_seat hi]
  exact shK_set k K i { K.seat i with vm:=r.1 }
 obtain ⟨K1,hK1⟩:∃ K1,K1=K.setSeat i { K.seat i with vm:=r.1 }:=⟨_,rfl⟩
 have hk1:KOk K1 m:=by rw [hK1];exact h.setSeat i hi (h.loc i hi)
 have hd1:TPk k K1:=by rw [hK1];exact hd.set hi (hd i hi)
 have hl1:i < K1.seats.length:=by rw [hK1,seats_set];exact hi
 unfold stepK
 simp only
 rw [hr',e1,<-hr,<-hK1,e0,f1,f2]
 have hfl:TPs k (failS (K.seat i).loc):=hd i hi
 split
 ·refine ⟨?_,hd1.set hl1 hfl⟩
  rw [shK_seat hl1]
  show ((shK k K1).setSeat i (shS k { K1.seat i with loc:=failS (K.seat i).loc }),_)=_
  rw [shK_set]
 ·have o1:=sh_outside (k:=k) hl1 r.2.1
  have o2:=outsideK_ok hk1 i hl1 r.2.1
  have hdo:TPk k (outsideK K1 i r.2.1).1:=by
   have hset:=hd1.set hl1 (s:={ K1.seat i with inp:=(K1.seat i).inp.tail }) (hd1 i hl1)
   intro j hj
   rw [o2.2] at hj
   unfold outsideK
   simp only
   have hA:∀ A:KSt,TPk k A->A.seats.length=K1.seats.length->TPs k (A.seat j).loc:=fun A q1 q2=>q1 j (by omega)
   split
   ·split
    ·split
     ·exact hA _ hset (seats_set _ _ _)
     ·exact hA _ hd1 rfl
    ·split
     ·exact hA _ hset (seats_set _ _ _)
     ·exact hA _ hd1 rfl
   ·split
    ·split
     ·exact hA _ hset (seats_set _ _ _)
     ·exact hA _ hd1 rfl
    ·split
     ·exact hA _ hset (seats_set _ _ _)
     ·exact hA _ hd1 rfl
  rw [o1]
  obtain ⟨c1,c2⟩:=sh_chargeK o2.1 hdo (i:=i) (by rw [o2.2];exact hl1)
  simp only
  rw [c1]
  exact ⟨rfl,c2⟩
theorem sh_tick {k m m':Int} (hk:0<=k) {K:KSt} (h:KOk K m) (h':KOk (shK k K) m') (hd:TPk k K) (hf:k % K.cfg.frame=0) {es:List Entry} (hT:tickE K es=0) (hT':tickE (shK k K) (es.map (shE k))=0) :
  tickK (shK k K) (es.map (shE k))=(shK k (tickK K es).1,{ (tickK K es).2 with tick:=(tickK K es).2.tick+k })/\TPk k (tickK K es).1:=by
 obtain ⟨A,B,O,D,hA,hB,hO,hD,hE⟩:=tickK_go hT
 obtain ⟨A',B',O',D',hA',hB',hO',hD',hE'⟩:=tickK_go hT'
 have b1:=sh_bound (k:=k) (K:=K) hf
 have bs:=boundK_same K
 have hd0:TPk k (boundK K).1:=by
  intro i hi
  unfold KSt.seat
  rw [bs.1]
  rw [bs.1] at hi
  exact hd i hi
 have g0:=boundK_ok h
 have g0':=boundK_ok h'
 rw [b1] at g0' hA' hE'
 simp only at g0' hA' hE'
 obtain ⟨a1,a2⟩:=sh_enters hk es g0 g0' hd0
 rw [a1,<-hA] at hA'
 rw [<-hA] at a2
 have g1:=entersK_ok es g0
 have g1':=entersK_ok (es.map (shE k)) g0'
 rw [a1] at g1'
 rw [<-hA] at g1 g1'
 rw [hA'] at hB' hE'
 simp only at hB' hE'
 rw [shK_len] at hB'
 obtain ⟨c1,c2⟩:=sh_begins hk g1 g1' a2 A.1.seats.length (Nat.le_refl _)
 rw [c1,<-hB] at hB'
 rw [<-hB] at c2
 have g2:=beginsK_ok g1 A.1.seats.length (Nat.le_refl _)
 rw [<-hB] at g2
 rw [hB'] at hO' hE'
 simp only at hO' hE'
 have hfr:B.1.cfg.frame=K.cfg.frame:=by
  rw [hB,(beginsK_same _ _).1.cfg,hA,(entersK_same es _).1.cfg,bs.2.1]
 have o1:=sh_owner (k:=k) g2 (by rw [hfr];exact hf)
 rw [o1,<-hO] at hO'
 rw [hO'] at hD' hE'
 simp only at hD' hE'
 have g3:=ownerK_ok g2
 have os:=ownerK_same B.1
 have ol:=ownerK_lt g2
 rw [<-hO] at g3 os ol
 have hd3:TPk k O.1:=by
  intro i hi
  unfold KSt.seat
  rw [os.1]
  rw [os.1] at hi
  exact c2 i hi
 have key:D'=(shK k D.1,D.2)/\TPk k D.1:=by
  rw [hD',hD]
  split
  ·exact sh_step g3 hd3 (by rw [os.1];omega)
  ·exact ⟨rfl,hd3⟩
 rw [key.1] at hE'
 rw [hE',hE]
 refine ⟨?_,fun i hi=>key.2 i hi⟩
 simp only
 unfold shK
 simp only [Prod.mk.injEq,KSt.mk.injEq,and_true,true_and]
 omega
end Go.Proofs.YtooeeiiiflfckaaGreat
