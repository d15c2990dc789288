/- KernelShift, plainly: a kernel that is later by k does the same. -/
import Derived.Test.YtooeeiiiflfckaaGreatRunP
import Derived.Test.YtooeeiiiflfckaaGreatAwkP
set_option linter.unusedVariables false
set_option linter.unusedSimpArgs false
namespace Go.Proofs.YtooeeiiiflfckaaGreat
open Go.RowKit
def shJ (k:Int) (j:Job):Job:={ j with release:=j.release+k,deadline:=j.deadline+k }
def shT (k:Int) (s:Turns):Turns:=⟨if s.last=-1 then -1 else s.last+k,s.picks⟩
def shR (k:Int) (r:TRun):TRun:=⟨r.t,shT k r.s,r.seq⟩
def shL (k:Int) (S:LSt):LSt:=⟨S.idx,S.lvl,S.rs.map (shR k),S.js.map (shJ k)⟩
def shS (k:Int) (s:SSt):SSt:={ s with loc:=shL k s.loc }
def shK (k:Int) (K:KSt):KSt:={ K with now:=K.now+k,start:=K.start+k,seats:=K.seats.map (shS k) }
def shE (k:Int) (e:Entry):Entry:={ e with at_:=e.at_+k }
def TPs (k:Int) (S:LSt):Prop:=∀ r∈S.rs,r.t.kind=0->k % r.t.period=0
theorem sh_ahead (k:Int) (a b:Job):ahead (shJ k a) (shJ k b)=ahead a b:=by
 unfold ahead shJ
 simp only
 congr 1
 apply propext
 constructor <;> intro h <;> omega
theorem sh_cmp (k:Int) (a b:Job):cmpJ (shJ k a) (shJ k b)=cmpJ a b:=by
 unfold cmpJ shJ cmpI
 simp only [Int.add_lt_add_iff_right]
theorem sh_left (k now:Int) (js:List Job) (h:jobsMay js=true) (h':jobsMay (js.map (shJ k))=true):leftJ (js.map (shJ k)) (now+k)=(leftJ js now).map (shJ k)/\lateJ (js.map (shJ k)) (now+k)=(lateJ js now).map (shJ k):=by
 unfold leftJ lateJ
 rw [if_pos h,if_pos h',if_pos h,if_pos h',List.filter_map,List.filter_map]
 have e1:(leftP (now+k)) ∘ shJ k=leftP now:=by
  funext j
  simp [leftP,shJ]
 have e2:(lateP (now+k)) ∘ shJ k=lateP now:=by
  funext j
  simp [lateP,shJ]
 rw [e1,e2]
 exact ⟨rfl,rfl⟩
theorem sh_run {k:Int} {S:LSt} {i:Nat} (hi:i < S.rs.length):(shL k S).run i=shR k (S.run i):=by
 unfold LSt.run shL
 simp [List.getD_eq_getElem?_getD,hi]
theorem sh_setR (k:Int) (S:LSt) (i:Nat) (r:TRun):(shL k S).setR i (shR k r)=shL k (S.setR i r):=by
 unfold LSt.setR shL
 simp
theorem sh_last {k:Int} (hk:0<=k) {t:Task} {s:Turns} (h:pairMay t s=true):((shT k s).last=-1 ↔ s.last=-1)/\(s.last≠-1->(shT k s).last=s.last+k):=by
 obtain ⟨-,h1,-⟩:=pairMay_task h
 unfold shT
 simp only
 split
 ·rename_i e
  exact ⟨by simp [e],fun q=>absurd e q⟩
 ·rename_i e
  exact ⟨⟨fun q=>by omega,fun q=>absurd q e⟩,fun _=>rfl⟩
theorem sh_soon {k:Int} (hk:0<=k) {t:Task} {s:Turns} (h:pairMay t s=true) (now:Int):soonB t (shT k s) (now+k)=soonB t s now:=by
 obtain ⟨h1,h2⟩:=sh_last hk h
 unfold soonB
 by_cases e:s.last=-1
 ·simp [e,h1.2 e]
 ·have e2:(shT k s).last≠-1:=fun q=>e (h1.1 q)
  rw [h2 e]
  have:decide (s.last+k=-1)=decide (s.last=-1):=by rw [h2 e] at e2;simp [e,e2]
  rw [this]
  congr 2
  apply propext
  constructor <;> intro q <;> omega
theorem sh_rel {k now:Int} (hk:0<=k) {r:TRun} (h:pairMay r.t r.s=true) (h':pairMay (shR k r).t (shR k r).s=true) (hc:clockB now=true) (hc':clockB (now+k)=true) (hd:r.t.kind=0->k % r.t.period=0):relIs (shR k r).t (shR k r).s (now+k)=relIs r.t r.s now:=by
 unfold relIs
 rw [h,h',hc,hc']
 simp only [Bool.true_and]
 unfold comesB
 show (if r.t.kind=0 then decide ((now+k) % r.t.period=0) else decide (0 < (shT k r.s).picks.length) && soonB r.t (shT k r.s) (now+k))=_
 split
 ·rename_i e
  rw [Int.add_emod,hd e,Int.add_zero,Int.emod_emod_of_dvd _ (Int.dvd_refl _)]
 ·rw [sh_soon hk h]
  rfl
theorem sh_pos (k:Int) (js:List Job) (x:Job):pos (js.map (shJ k)) (shJ k x)=pos js x:=by
 unfold pos
 rw [List.takeWhile_map,List.length_map]
 congr 2
 funext y
 exact sh_ahead k y x
theorem sh_hit (k:Int) (js:List Job) (x:Job):hit (js.map (shJ k)) (shJ k x)=hit js x:=by
 unfold hit
 rw [sh_pos,List.getElem?_map]
 cases js[pos js x]? with
 | none=>rfl
 | some y=>simp [sh_cmp]
theorem sh_putL (k:Int) (js:List Job) (x:Job):putL (js.map (shJ k)) (shJ k x)=(putL js x).map (shJ k):=by
 unfold putL
 rw [sh_pos]
 simp
theorem sh_may {k:Int} {x:Job} (h1:0<=x.release/\x.release<=1099511627776) (h2:0<=x.release+k/\x.release+k<=1099511627776):jobMay (shJ k x)=jobMay x:=by
 unfold jobMay shJ
 simp only
 congr 1
 apply propext
 constructor <;> intro h <;> omega
theorem sh_putE {k:Int} {js:List Job} (h:jobsMay js=true) (h':jobsMay (js.map (shJ k))=true) {x:Job} (h1:0<=x.release/\x.release<=1099511627776) (h2:0<=x.release+k/\x.release+k<=1099511627776):putE (js.map (shJ k)) (shJ k x)=putE js x:=by
 unfold putE
 rw [h,h',sh_may h1 h2,sh_hit,List.length_map]
theorem clock_iff {x:Int} (h:clockB x=true):0<=x/\x<=1099511627776:=by
 unfold clockB at h
 simpa using h
theorem sh_relS {k now m m':Int} (hk:0<=k) {S:LSt} (h:LWf S m) (h':LWf (shL k S) m') (hd:TPs k S) {i:Nat} (hi:i < S.rs.length) (hc:clockB now=true) (hc':clockB (now+k)=true) :
  relS (shL k S) i (now+k)=shL k (relS S i now)/\relEv (shL k S) i (now+k)=relEv S i now/\TPs k (relS S i now):=by
 have hm:=LSt.run_mem hi
 have hr:=(h.rs _ hm).1
 have hr':=(h'.rs (shR k (S.run i)) (List.mem_map_of_mem hm)).1
 have hrel:=sh_rel hk hr hr' hc hc' (hd _ hm)
 have hj:relJ (shR k (S.run i)) i (now+k)=shJ k (relJ (S.run i) i now):=by
  unfold relJ shJ shR shT relD
  simp only
  congr 1
  omega
 have hp:=sh_putE h.js h'.js (x:=relJ (S.run i) i now) (clock_iff hc) (clock_iff hc')
 have hw:(shR k (S.run i)).went (now+k)=shR k ((S.run i).went now):=by
  have:=clock_iff hc
  unfold TRun.went shR shT
  simp only
  rw [if_neg (by omega)]
 refine ⟨?_,?_,?_⟩
 ·unfold relS
  rw [sh_run hi,hrel,hj]
  show (if relIs (S.run i).t (S.run i).s now=true then (if putE (S.js.map (shJ k)) (shJ k (relJ (S.run i) i now))=0 then _ else _) else shL k S)=_
  rw [hp]
  split
  ·split
   ·show (⟨_,_,_,putL (S.js.map (shJ k)) (shJ k (relJ (S.run i) i now))⟩:LSt)=_
    rw [sh_putL,hw]
    unfold shL LSt.setR
    simp only [List.map_set]
    rfl
   ·rw [hw,sh_setR]
  ·rfl
 ·unfold relEv
  rw [sh_run hi,hrel,hj]
  show (if relIs (S.run i).t (S.run i).s now=true/\putE (S.js.map (shJ k)) (shJ k (relJ (S.run i) i now))=0 then _ else _)=_
  rw [hp]
  rfl
 ·have hset:∀ r:TRun,r.t=(S.run i).t->∀ x∈S.rs.set i r,x.t.kind=0->k % x.t.period=0:=fun r e x hx=>by
   rcases List.mem_or_eq_of_mem_set hx with hx | rfl
   ·exact hd x hx
   ·rw [e];exact hd _ hm
  unfold relS
  split
  ·split
   ·exact hset _ rfl
   ·exact hset _ rfl
  ·exact hd
theorem sh_relN {k now m m':Int} (hk:0<=k) {S:LSt} (h:LWf S m) (h':LWf (shL k S) m') (hd:TPs k S) (hc:clockB now=true) (hc':clockB (now+k)=true):∀ n,n<=S.rs.length ->
  (relN (shL k S) (now+k) n).1=shL k (relN S now n).1/\(relN (shL k S) (now+k) n).2=(relN S now n).2/\TPs k (relN S now n).1
 | 0,_=>⟨rfl,rfl,hd⟩
 | n+1,hn=>by
  obtain ⟨a1,a2,a3⟩:=sh_relN hk h h' hd hc hc' n (by omega)
  have w1:=relN_wf h hc n (by omega)
  have w2:=relN_wf h' hc' n (by simp [shL];omega)
  rw [a1] at w2
  have hl:=(relN_len S now n).1
  obtain ⟨b1,b2,b3⟩:=sh_relS hk w1 w2 a3 (i:=n) (by omega) hc hc'
  simp only [relN]
  rw [a1,a2]
  exact ⟨b1,by rw [b2],b3⟩
theorem sh_begin {k now m m':Int} (hk:0<=k) {S:LSt} (h:LWf S m) (h':LWf (shL k S) m') (hd:TPs k S) (hc:clockB now=true) (hc':clockB (now+k)=true) :
  begS (shL k S) (now+k)=shL k (begS S now)/\begE (shL k S) (now+k)=begE S now/\TPs k (begS S now):=by
 obtain ⟨l1,l2⟩:=sh_left k now S.js h.js h'.js
 have w1:=left_wf h now
 have w2:=left_wf h' (now+k)
 have e:({ shL k S with js:=leftJ (shL k S).js (now+k) }:LSt)=shL k { S with js:=leftJ S.js now }:=by
  show (⟨_,_,_,leftJ (S.js.map (shJ k)) (now+k)⟩:LSt)=_
  rw [l1]
  rfl
 rw [e] at w2
 obtain ⟨a1,a2,a3⟩:=sh_relN hk w1 w2 hd hc hc' S.rs.length (Nat.le_refl _)
 have hl:(shL k S).rs.length=S.rs.length:=by simp [shL]
 refine ⟨?_,?_,a3⟩
 ·unfold begS
  rw [e,hl]
  exact a1
 ·unfold begE missEv
  rw [e,hl,a2]
  congr 1
  show (lateJ (S.js.map (shJ k)) (now+k)).map _=_
  rw [l2,List.map_map]
  rfl
theorem sh_pick {k now m m':Int} (hk:0<=k) {S:LSt} (h:LWf S m) (h':LWf (shL k S) m') (hd:TPs k S) (hc:clockB now=true) (hc':clockB (now+k)=true) (i d:Int) :
  pickSt (shL k S) i d (now+k)=shL k (pickSt S i d now)/\pickEv (shL k S) i d (now+k)=pickEv S i d now/\TPs k (pickSt S i d now):=by
 have hl:(shL k S).rs.length=S.rs.length:=by simp [shL]
 by_cases hi:i < 0∨(S.rs.length:Int)<=i
 ·have e1:pickErr S i d now=1400:=by
   unfold pickErr
   rw [if_pos (by rcases hi with q | q;exact .inl q;exact .inr (.inl q))]
  have e2:pickErr (shL k S) i d (now+k)=1400:=by
   unfold pickErr
   rw [hl,if_pos (by rcases hi with q | q;exact .inl q;exact .inr (.inl q))]
  unfold pickSt pickEv
  rw [e1,e2]
  exact ⟨rfl,rfl,hd⟩
 ·have hin:i.toNat < S.rs.length:=by omega
  have hm:=LSt.run_mem hin
  have hr:=(h.rs _ hm).1
  have hr':=(h'.rs (shR k (S.run i.toNat)) (List.mem_map_of_mem hm)).1
  have hpe:pickE (shR k (S.run i.toNat)).t (shR k (S.run i.toNat)).s d=pickE (S.run i.toNat).t (S.run i.toNat).s d:=by
   unfold pickE
   rw [hr,hr']
   rfl
  have e1:pickErr S i d now=pickE (S.run i.toNat).t (S.run i.toNat).s d:=by
   unfold pickErr
   rw [if_neg (by rw [hc];simp;omega)]
  have e2:pickErr (shL k S) i d (now+k)=pickE (S.run i.toNat).t (S.run i.toNat).s d:=by
   unfold pickErr
   rw [hl,if_neg (by rw [hc'];simp;omega),sh_run hin,hpe]
  have hmore:(shR k (S.run i.toNat)).more d=shR k ((S.run i.toNat).more d):=rfl
  refine ⟨?_,?_,?_⟩
  ·unfold pickSt
   rw [e1,e2]
   split
   ·rw [sh_run hin,hmore,sh_setR]
   ·rfl
  ·unfold pickEv
   rw [e1,e2,sh_run hin,hmore]
   by_cases h0:pickE (S.run i.toNat).t (S.run i.toNat).s d=0
   ·have hmm:=more_may h0
    have hmm':pairMay (shR k ((S.run i.toNat).more d)).t (shR k ((S.run i.toNat).more d)).s=true:=by
     have:=more_may (r:=shR k (S.run i.toNat)) (d:=d) (hpe.trans h0)
     exact this
    have hlate:lateB (shR k (S.run i.toNat)).t (shR k ((S.run i.toNat).more d)).s (now+k)=lateB (S.run i.toNat).t ((S.run i.toNat).more d).s now:=by
     unfold lateB
     have hs:=sh_soon (k:=k) hk hmm now
     have m1:pairMay (S.run i.toNat).t ((S.run i.toNat).more d).s=true:=hmm
     have m2:pairMay (shR k (S.run i.toNat)).t (shR k ((S.run i.toNat).more d)).s=true:=hmm'
     rw [m1,m2,hc,hc']
     show (true && true && decide ((S.run i.toNat).t.kind=1) && decide (0 < ((S.run i.toNat).more d).s.picks.length) && !soonB (S.run i.toNat).t (shT k ((S.run i.toNat).more d).s) (now+k))=_
     rw [show soonB (S.run i.toNat).t (shT k ((S.run i.toNat).more d).s) (now+k)=soonB (S.run i.toNat).t ((S.run i.toNat).more d).s now from hs]
    rw [hlate]
    by_cases hq:lateB (S.run i.toNat).t ((S.run i.toNat).more d).s now=true
    ·rw [if_pos ⟨h0,hq⟩,if_pos ⟨h0,hq⟩]
     have hne:(S.run i.toNat).s.last≠-1:=by
      intro e
      unfold lateB soonB at hq
      have e':((S.run i.toNat).more d).s.last=-1:=e
      rw [e'] at hq
      simp at hq
     have hls:=(sh_last hk hr).2 hne
     show [evt (shL k S) 2 i ((shT k (S.run i.toNat).s).last+(S.run i.toNat).t.period - (now+k))]=_
     rw [hls]
     unfold evt shL
     simp only
     congr 2
     omega
    ·rw [if_neg (fun q=>hq q.2),if_neg (fun q=>hq q.2)]
   ·rw [if_neg (fun q=>h0 q.1),if_neg (fun q=>h0 q.1)]
  ·unfold pickSt
   split
   ·intro x hx
    rcases List.mem_or_eq_of_mem_set hx with hx | rfl
    ·exact hd x hx
    ·show (S.run i.toNat).t.kind=0->k % (S.run i.toNat).t.period=0
     exact hd _ hm
   ·exact hd
theorem sh_charge {k m:Int} {S:LSt} (h:LWf S m) (hd:TPs k S):runV (shL k S)=runV S/\runS (shL k S)=shL k (runS S)/\runEv (shL k S)=runEv S/\TPs k (runS S)/\failS (shL k S)=shL k (failS S)/\failEv (shL k S)=failEv S:=by
 have hem:(shL k S).js.isEmpty=S.js.isEmpty:=by unfold shL;cases S.js <;> rfl
 cases hj:S.js with
 | nil =>
  have e1:S.js.isEmpty=true:=by rw [hj];rfl
  have e2:=hem.trans e1
  unfold runS runEv failEv
  rw [if_pos e1,if_pos e2,if_pos e1,if_pos e2,if_pos e1,if_pos e2]
  refine ⟨?_,rfl,rfl,hd,?_,rfl⟩
  ·unfold runV
   rw [if_pos e1,if_pos e2]
  ·unfold failS shL
   rw [hj]
   rfl
 | cons j r =>
  have e1:S.js.isEmpty=false:=by rw [hj];rfl
  have e2:=hem.trans e1
  have hh:S.hd=j:=by unfold LSt.hd;rw [hj];rfl
  have hh':(shL k S).hd=shJ k j:=by unfold LSt.hd shL;rw [hj];rfl
  have ht:=h.jt j (by rw [hj];simp)
  have hrun:(shL k S).run j.task.toNat=shR k (S.run j.task.toNat):=sh_run (by omega)
  have hV:runV (shL k S)=runV S:=by
   unfold runV
   rw [e1,e2,hh,hh']
   show (if false=true then _ else chV (shJ k j) ((shL k S).run j.task.toNat).t S.lvl)=_
   rw [hrun]
   rfl
  refine ⟨hV,?_,?_,?_,?_,?_⟩
  ·unfold runS
   rw [e1,e2,hV]
   simp only [Bool.false_eq_true,if_false]
   split
   ·unfold shL
    rw [hj]
    rfl
   ·rw [hh,hh']
    unfold shL
    rw [hj]
    rfl
  ·unfold runEv
   rw [e1,e2]
   simp only [Bool.false_eq_true,if_false]
   unfold runEvK
   rw [hV,hh,hh']
   rfl
  ·unfold runS
   rw [e1]
   simp only [Bool.false_eq_true,if_false]
   split <;> exact hd
  ·unfold failS shL
   rw [hj]
   rfl
  ·unfold failEv
   rw [e1,e2,hh,hh']
   rfl
end Go.Proofs.YtooeeiiiflfckaaGreat
