/- What a law holds while it runs kernels: the kernels, its own boxes, its own rows. -/
import Derived.Test.YtooeeiiiflfckaaGreatKbZ
set_option linter.unusedVariables false
set_option linter.unusedSimpArgs false
namespace Go.Proofs.YtooeeiiiflfckaaGreat
open Go.RowKit
def entCells (x:Entry):List Value:=[.int .i64 x.at_,.int .i64 x.kind,.int .i64 x.part,.int .i64 x.task,.int .i64 x.value]
theorem flatEntry:Flat EntryAt 5 entCells where
 pos:=by decide
 len _:=rfl
 one x u hu:=by simp [entCells] at hu;rcases hu with rfl | rfl | rfl | rfl | rfl <;> rfl
 of W b o x h:=⟨h 0 _ rfl,h 1 _ rfl,h 2 _ rfl,h 3 _ rfl,h 4 _ rfl⟩
 cell W b o x h j u hu:=by
  obtain ⟨h0,h1,h2,h3,h4⟩:=h
  match j,hu with
  | 0,hu=>injection hu with hu;subst hu;exact h0
  | 1,hu=>injection hu with hu;subst hu;exact h1
  | 2,hu=>injection hu with hu;subst hu;exact h2
  | 3,hu=>injection hu with hu;subst hu;exact h3
  | 4,hu=>injection hu with hu;subst hu;exact h4
theorem own_blk {W:World} {g n size:Nat} {e:TypeId} {xs:List Value} (hk:W.heap[g]?=some (.cells xs.toArray e (0,0))) (hl:xs.length=n*size) (hn:n<=maxLen):W.ownsRow 0 e size (.slice (some ⟨g,0,none⟩) n n) n xs :=
 ⟨hl,.inr ⟨g,n,xs.toArray,rfl,Nat.zero_le _,hk,Nat.le_refl _,hn,by simpa using hl,by rw [<-hl];simp⟩⟩
theorem entries_blk {W:World} {g:Nat} (es:List Entry) (h:W.heap[g]?=some (.cells (es.flatMap entCells).toArray 38 (0,0))) (hn:es.length<=1000000):EntriesV W (.slice (some ⟨g,0,none⟩) es.length es.length) es :=
 flatEntry.slice (own_blk h (by rw [flat_len _ _ flatEntry.len]) (by unfold maxLen;omega)) (by omega)
theorem events_blk {W:World} {g:Nat} (es:List Event) (h:W.heap[g]?=some (.cells (es.flatMap evCells).toArray 45 (0,0))) (hn:es.length<=1000000):EventsV W (.slice (some ⟨g,0,none⟩) es.length es.length) es :=
 flatEvent.slice (own_blk h (by rw [flat_len _ _ flatEvent.len]) (by unfold maxLen;omega)) (by omega)
structure KH where
 Y:KLay
 K:KSt
 G:Nat->Prop
 m:Int
structure RH where
 e:TypeId
 size:Nat
 v:Value
 n:Nat
 xs:List Value
structure LawAt (w0 W:World) (ks:List KH) (bx:List (Nat × Obj)) (rs:List RH):Prop where
 kat:∀ k∈ks,KAt W k.Y k.K k.G
 ok:∀ k∈ks,KOk k.K k.m
 low:∀ k∈ks,∀ j,k.G j->w0.heap.size<=j
 dis:ks.Pairwise (fun a b=>∀ j,a.G j->¬ b.G j)
 below:Below w0.heap.size w0 W
 box:∀ p∈bx,W.heap[p.1]?=some p.2/\w0.heap.size<=p.1/\∀ k∈ks,¬ k.G p.1
 row:∀ r∈rs,W.ownsRow w0.heap.size r.e r.size r.v r.n r.xs/\∀ k∈ks,Off r.v k.G
 apart:rs.Pairwise (fun a b=>Apart a.v b.v)
 off:∀ p∈bx,∀ r∈rs,r.v.ownBlock≠some p.1
 two:bx.Pairwise (fun a b=>a.1≠b.1)
theorem LawAt.start (w:World):LawAt w w [] [] []:=⟨by simp,by simp,by simp,List.Pairwise.nil,Below.refl _ _,by simp,by simp,List.Pairwise.nil,by simp,List.Pairwise.nil⟩
section
variable {w0 W W':World} {ks:List KH} {bx:List (Nat × Obj)} {rs:List RH}
theorem LawAt.grow (h:LawAt w0 W ks bx rs) (hb:Below W.heap.size W W'):LawAt w0 W' ks bx rs :=
 ⟨fun k hk=>(h.kat k hk).below hb,h.ok,h.low,h.dis,bthen h.below hb,fun p hp=>⟨keep_at (h.box p hp).1 hb,(h.box p hp).2⟩,fun r hr=>⟨Below.kept (h.row r hr).1 hb,(h.row r hr).2⟩,h.apart,h.off,h.two⟩
theorem LawAt.less {bx':List (Nat × Obj)} {rs':List RH} (h:LawAt w0 W ks bx rs) (hb:bx'.Sublist bx) (hr:rs'.Sublist rs):LawAt w0 W ks bx' rs' :=
 ⟨h.kat,h.ok,h.low,h.dis,h.below,fun p hp=>h.box p (hb.subset hp),fun r q=>h.row r (hr.subset q),h.apart.sublist hr,fun p hp r q=>h.off p (hb.subset hp) r (hr.subset q),h.two.sublist hb⟩
theorem LawAt.nobox (h:LawAt w0 W ks bx rs):LawAt w0 W ks [] rs:=h.less (List.nil_sublist _) (List.Sublist.refl _)
theorem LawAt.norow (h:LawAt w0 W ks bx rs):LawAt w0 W ks bx []:=h.less (List.Sublist.refl _) (List.nil_sublist _)
theorem LawAt.swap {a b:KH} (h:LawAt w0 W (a::b::ks) bx rs):LawAt w0 W (b::a::ks) bx rs:=by
 have hp:∀ k,k∈b::a::ks->k∈a::b::ks:=fun k q=>by
  simp only [List.mem_cons] at q |-
  rcases q with q | q | q
  ·exact .inr (.inl q)
  ·exact .inl q
  ·exact .inr (.inr q)
 refine ⟨fun k q=>h.kat k (hp k q),fun k q=>h.ok k (hp k q),fun k q=>h.low k (hp k q),?_,h.below,fun p q=>⟨(h.box p q).1,(h.box p q).2.1,fun k qk=>(h.box p q).2.2 k (hp k qk)⟩,fun r q=>⟨(h.row r q).1,fun k qk=>(h.row r q).2 k (hp k qk)⟩,h.apart,h.off,h.two⟩
 have hd:=h.dis
 simp only [List.pairwise_cons,List.mem_cons,forall_eq_or_imp] at hd |-
 exact ⟨⟨fun j q1 q2=>hd.1.1 j q2 q1,hd.2.1⟩,hd.1.2,hd.2.2⟩
theorem LawAt.fresh (h:LawAt w0 W ks bx rs) {g:Nat} (hg:W.heap.size<=g):∀ k∈ks,¬ k.G g:=fun k hk q=>by
 have:=(h.kat k hk).lt q
 omega
theorem LawAt.alloc (h:LawAt w0 W ks bx rs) {g:Nat} {o:Obj} (hb:Below W.heap.size W W') (hg:W.heap.size<=g) (hk:W'.heap[g]?=some o):LawAt w0 W' ks ((g,o)::bx) rs:=by
 have h2:=h.grow hb
 refine ⟨h2.kat,h2.ok,h2.low,h2.dis,h2.below,fun p hp=>?_,h2.row,h2.apart,fun p hp r hr e=>?_,?_⟩
 ·rcases List.mem_cons.1 hp with rfl | hp
  ·exact ⟨hk,Nat.le_trans h.below.size hg,h.fresh hg⟩
  ·exact h2.box p hp
 ·rcases List.mem_cons.1 hp with rfl | hp
  ·have:=((h.row r hr).1.lt _ e).2
   simp only at this
   omega
  ·exact h.off p hp r hr e
 ·rw [List.pairwise_cons]
  refine ⟨fun b hbm e=>?_,h2.two⟩
  have:=lt_of_block (h.box b hbm).1
  simp only at e
  omega
theorem LawAt.addRow (h:LawAt w0 W ks bx rs) (hb:Below W.heap.size W W') {r:RH} (hr:W'.ownsRow W.heap.size r.e r.size r.v r.n r.xs):LawAt w0 W' ks bx (r::rs):=by
 have h2:=h.grow hb
 have hs:=h.below.size
 refine ⟨h2.kat,h2.ok,h2.low,h2.dis,h2.below,h2.box,fun q hq=>?_,?_,fun p hp q hq e=>?_,h2.two⟩
 ·rcases List.mem_cons.1 hq with rfl | hq
  ·exact ⟨own_low hr hs,fun k hk g hg=>h.fresh (hr.lt g hg).1 k hk⟩
  ·exact h2.row q hq
 ·rw [List.pairwise_cons]
  refine ⟨fun b hbm g h1 h3=>?_,h2.apart⟩
  have:=(hr.lt g h1).1
  have:=((h.row b hbm).1.lt g h3).2
  omega
 ·rcases List.mem_cons.1 hq with rfl | hq
  ·have:=(hr.lt _ e).1
   have:=lt_of_block (h.box p hp).1
   omega
  ·exact h.off p hp q hq e
theorem LawAt.nilRow (h:LawAt w0 W ks bx rs) (e:TypeId) (size:Nat):LawAt w0 W ks bx (⟨e,size,.slice none 0 0,0,[]⟩::rs):=h.addRow (Below.refl _ _) (World.ownsRow_nil _ _ _ _)
theorem LawAt.new (h:LawAt w0 W ks bx rs) (hb:Below W.heap.size W W') {Y:KLay} {K:KSt} {G:Nat->Prop} {m:Int} (hk:KAt W' Y K G) (hok:KOk K m) (hl:∀ j,G j->W.heap.size<=j):LawAt w0 W' (⟨Y,K,G,m⟩::ks) bx rs:=by
 have h2:=h.grow hb
 have hs:=h.below.size
 refine ⟨fun k q=>?_,fun k q=>?_,fun k q=>?_,?_,h2.below,fun p hp=>⟨(h2.box p hp).1,(h2.box p hp).2.1,fun k q=>?_⟩,fun r hr=>⟨(h2.row r hr).1,fun k q=>?_⟩,h2.apart,h2.off,h2.two⟩
 ·rcases List.mem_cons.1 q with rfl | q
  ·exact hk
  ·exact h2.kat k q
 ·rcases List.mem_cons.1 q with rfl | q
  ·exact hok
  ·exact h2.ok k q
 ·rcases List.mem_cons.1 q with rfl | q
  ·exact fun j hj=>Nat.le_trans hs (hl j hj)
  ·exact h2.low k q
 ·rw [List.pairwise_cons]
  refine ⟨fun b hbm j h1 h3=>?_,h2.dis⟩
  have:=(h.kat b hbm).lt h3
  have:=hl j h1
  omega
 ·rcases List.mem_cons.1 q with rfl | q
  ·intro q2
   have:=hl _ q2
   have:=lt_of_block (h.box p hp).1
   omega
  ·exact (h2.box p hp).2.2 k q
 ·rcases List.mem_cons.1 q with rfl | q
  ·intro g hg q2
   have:=hl _ q2
   have:=((h.row r hr).1.lt g hg).2
   omega
  ·exact (h2.row r hr).2 k q
theorem LawAt.move {Y:KLay} {K K':KSt} {G G':Nat->Prop} {m m':Int} (h:LawAt w0 W (⟨Y,K,G,m⟩::ks) bx rs) (hk:KAt W' Y K' G') (hm:Moves G G' W W') (hok:KOk K' m'):LawAt w0 W' (⟨Y,K',G',m'⟩::ks) bx rs:=by
 have hs:=h.below.size
 have hlow:=h.low _ (List.mem_cons_self ..)
 simp only at hlow
 have hd:=h.dis
 rw [List.pairwise_cons] at hd
 have hkt:=fun k (q:k∈ks)=>h.kat k (List.mem_cons_of_mem _ q)
 refine ⟨fun k q=>?_,fun k q=>?_,fun k q=>?_,?_,?_,fun p hp=>?_,fun r hr=>?_,h.apart,h.off,h.two⟩
 ·rcases List.mem_cons.1 q with rfl | q
  ·exact hk
  ·exact (hkt k q).keeps hm.keep (fun j q1 q2=>hd.1 k q j q2 q1)
 ·rcases List.mem_cons.1 q with rfl | q
  ·exact hok
  ·exact h.ok k (List.mem_cons_of_mem _ q)
 ·rcases List.mem_cons.1 q with rfl | q
  ·intro j hj
   rcases hm.own j hj with q | q
   ·exact hlow j q
   ·omega
  ·exact h.low k (List.mem_cons_of_mem _ q)
 ·rw [List.pairwise_cons]
  refine ⟨fun b hbm j h1 h3=>?_,hd.2⟩
  rcases hm.own j h1 with q | q
  ·exact hd.1 b hbm j q h3
  ·have:=(hkt b hbm).lt h3
   omega
 ·exact ⟨hm.keep.os.trans h.below.os,hm.keep.tape.trans h.below.tape,hm.keep.output.trans h.below.output,Nat.le_trans h.below.size hm.keep.size,fun j hj=>(hm.keep.block j (Nat.lt_of_lt_of_le hj hs) (fun q=>by have:=hlow j q;omega)).trans (h.below.block j hj)⟩
 ·obtain ⟨h1,h2,h3⟩:=h.box p hp
  have h4:=hm.at h1 (h3 _ (List.mem_cons_self ..))
  refine ⟨h4.1,h2,fun k q=>?_⟩
  rcases List.mem_cons.1 q with rfl | q
  ·exact h4.2
  ·exact h3 k (List.mem_cons_of_mem _ q)
 ·obtain ⟨h1,h3⟩:=h.row r hr
  have h4:=hm.own_row h1 (h3 _ (List.mem_cons_self ..))
  refine ⟨h4.1,fun k q=>?_⟩
  rcases List.mem_cons.1 q with rfl | q
  ·exact h4.2
  ·exact h3 k (List.mem_cons_of_mem _ q)
theorem LawAt.offBox {k:KH} (h:LawAt w0 W (k::ks) bx rs) {g:Nat} {o:Obj} (hp:(g,o)∈bx) (j n c:Nat):OffA (.slice (some ⟨g,j,none⟩) n c) k.G:=fun a n' c' e=>by
 injection e with e
 injection e with e
 rw [<-e]
 exact (h.box _ hp).2.2 k (List.mem_cons_self ..)
theorem LawAt.offRow {k:KH} (h:LawAt w0 W (k::ks) bx rs) {r:RH} (hp:r∈rs):OffA r.v k.G:=fun a n' c' e=>by
 have h1:=h.row r hp
 rcases h1.1.2 with ⟨q,-⟩ | ⟨g,cap,cur,q,-⟩
 ·rw [q] at e;cases e
 ·rw [q] at e
  injection e with e
  injection e with e
  rw [<-e]
  exact h1.2 k (List.mem_cons_self ..) g (by rw [q];rfl)
theorem offNil (G:Nat->Prop):OffA (.slice none 0 0) G:=fun a n c e=>by cases e
theorem LawAt.tick {Y:KLay} {K:KSt} {G:Nat->Prop} {m:Int} (h:LawAt w0 W (⟨Y,K,G,m⟩::ks) bx rs) (hm:m < 1000000000000000000) (es:List Entry) (v:Value) (he:EntriesV W v es) (hv:OffA v G) :
  Calls Tryz.prog 18 #[.pointer (some ⟨Y.kb,0,none⟩),v] W fun e W'=>∃ a n c G',e=.returned (.tuple #[krowV (tickK K es).2 (.slice a n c),.int .i64 (tickE K es)])/\n=(tickK K es).2.events.length/\LawAt w0 W' (⟨Y,(tickK K es).1,G',m+48⟩::ks) bx (⟨45,4,.slice a n c,(tickK K es).2.events.length,(tickK K es).2.events.flatMap evCells⟩::rs):=by
 have hkat:=h.kat _ (List.mem_cons_self ..)
 have hok:=h.ok _ (List.mem_cons_self ..)
 simp only at hkat hok
 refine (ktick_any Y K G m W hkat hok hm es v he hv).mono ?_
 rintro e W' ⟨a,n,c,rfl,hn,G',g1,g2,g3,g4⟩
 have h2:=h.move g1 g2 (tickK_ok hok es)
 refine ⟨a,n,c,G',rfl,hn,h2.kat,h2.ok,h2.low,h2.dis,h2.below,h2.box,fun r hr=>?_,?_,fun p hp r hr e=>?_,h2.two⟩
 ·rcases List.mem_cons.1 hr with rfl | hr
  ·refine ⟨own_low g3 h.below.size,fun k q=>?_⟩
   rcases List.mem_cons.1 q with rfl | q
   ·exact g4
   ·intro g hg q2
    have:=(h.kat k (List.mem_cons_of_mem _ q)).lt q2
    have:=(g3.lt g hg).1
    omega
  ·exact h2.row r hr
 ·rw [List.pairwise_cons]
  refine ⟨fun b hb g h1 h3=>?_,h2.apart⟩
  have:=(g3.lt g h1).1
  have:=((h.row b hb).1.lt g h3).2
  omega
 ·rcases List.mem_cons.1 hr with rfl | hr
  ·have:=(g3.lt _ e).1
   have:=lt_of_block (h.box p hp).1
   omega
  ·exact h.off p hp r hr e
theorem LawAt.setBox {g:Nat} {cs:Array Value} {t:TypeId} (h:LawAt w0 W ks ((g,.cells cs t (0,0))::bx) rs) (j:Nat) (u:Value):LawAt w0 (W.setCell ⟨g,j,none⟩ u) ks ((g,.cells (cs.setIfInBounds j u) t (0,0))::bx) rs:=by
 have hb:=h.box _ (List.mem_cons_self ..)
 have hg:=set_grown W g j u
 have hk:∀ k,k < W.heap.size->k≠g->(W.setCell ⟨g,j,none⟩ u).heap[k]?=W.heap[k]?:=fun k q e=>hg.block k q (fun e2=>e (by injection e2))
 have h2:=h.two
 rw [List.pairwise_cons] at h2
 refine ⟨fun k q=>(h.kat k q).far (fun i hi=>hk i ((h.kat k q).lt hi) (fun e=>hb.2.2 k q (e ▸ hi))),h.ok,h.low,h.dis,bput h.below hg hb.2.1 (Nat.le_refl _),fun p hp=>?_,fun r hr=>⟨(h.row r hr).1.kept hg ?_,(h.row r hr).2⟩,h.apart,fun p hp r hr=>?_,?_⟩
 ·rcases List.mem_cons.1 hp with rfl | hp
  ·exact ⟨blk_set hb.1 j u,hb.2⟩
  ·have:=h.box p (List.mem_cons_of_mem _ hp)
   exact ⟨(hk p.1 (lt_of_block this.1) (fun e=>h2.1 p hp e.symm)).trans this.1,this.2⟩
 ·exact .inr (fun e=>h.off _ (List.mem_cons_self ..) r hr e)
 ·rcases List.mem_cons.1 hp with rfl | hp
  ·exact h.off _ (List.mem_cons_self ..) r hr
  ·exact h.off p (List.mem_cons_of_mem _ hp) r hr
 ·rw [List.pairwise_cons]
  exact h2
theorem LawAt.callNow {Y:KLay} {K:KSt} {G:Nat->Prop} {m:Int} (h:LawAt w0 W (⟨Y,K,G,m⟩::ks) bx rs):Calls Tryz.prog 22 #[.pointer (some ⟨Y.kb,0,none⟩)] W fun e W'=>e=.returned (.int .i64 K.now)/\W'=W:=know_any Y K G W (h.kat _ (List.mem_cons_self ..))
theorem LawAt.callLed {Y:KLay} {K:KSt} {G:Nat->Prop} {m:Int} (h:LawAt w0 W (⟨Y,K,G,m⟩::ks) bx rs):Calls Tryz.prog 23 #[.pointer (some ⟨Y.kb,0,none⟩)] W fun e W'=>e=.returned (ledV K.led)/\LawAt w0 W' (⟨Y,K,G,m⟩::ks) bx rs:=by
 refine (kled_any Y K G W (h.kat _ (List.mem_cons_self ..))).mono ?_
 rintro e W' ⟨rfl,hb⟩
 exact ⟨rfl,h.grow hb⟩
theorem LawAt.callMode {Y:KLay} {K:KSt} {G:Nat->Prop} {m:Int} (h:LawAt w0 W (⟨Y,K,G,m⟩::ks) bx rs):Calls Tryz.prog 30 #[.pointer (some ⟨Y.kb,0,none⟩)] W fun e W'=>e=.returned (modV K.mode)/\LawAt w0 W' (⟨Y,K,G,m⟩::ks) bx rs:=by
 refine (kmode_any Y K G W (h.kat _ (List.mem_cons_self ..))).mono ?_
 rintro e W' ⟨rfl,hb⟩
 exact ⟨rfl,h.grow hb⟩
theorem LawAt.callVm {Y:KLay} {K:KSt} {G:Nat->Prop} {m:Int} (h:LawAt w0 W (⟨Y,K,G,m⟩::ks) bx rs) (p:Int):Calls Tryz.prog 24 #[.pointer (some ⟨Y.kb,0,none⟩),.int .i64 p] W fun e W'=>(∃ vm er,e=.returned (.tuple #[vmV vm,.int .i64 er])/\(0<=p/\p < K.seats.length->vm=(K.seat p.toNat).vm/\er=0)/\(¬ (0<=p/\p < K.seats.length)->vm=zeroVm/\er=2200)/\vm.mem.length=16)/\LawAt w0 W' (⟨Y,K,G,m⟩::ks) bx rs:=by
 have hkat:=h.kat _ (List.mem_cons_self ..)
 have hok:=h.ok _ (List.mem_cons_self ..)
 simp only at hkat hok
 refine (kvm_any Y K G m p W hkat hok).mono ?_
 rintro e W' ⟨v,er,rfl,h1,h2,hb⟩
 refine ⟨?_,h.grow hb⟩
 by_cases hp:0<=p/\p < K.seats.length
 ·exact ⟨(K.seat p.toNat).vm,er,by rw [(h1 hp).1],fun _=>⟨rfl,(h1 hp).2⟩,fun q=>absurd hp q,(hkat.seat (by omega)).2.2⟩
 ·exact ⟨zeroVm,er,by rw [(h2 hp).1],fun q=>absurd q hp,fun _=>⟨rfl,(h2 hp).2⟩,rfl⟩
theorem LawAt.callJobs {Y:KLay} {K:KSt} {G:Nat->Prop} {m:Int} (h:LawAt w0 W (⟨Y,K,G,m⟩::ks) bx rs) (p:Nat) (hp:p < K.seats.length):Calls Tryz.prog 25 #[.pointer (some ⟨Y.kb,0,none⟩),.int .i64 p] W fun e W'=>∃ a c,e=.returned (.slice a (K.seat p).loc.js.length c)/\LawAt w0 W' (⟨Y,K,G,m⟩::ks) bx (⟨124,7,.slice a (K.seat p).loc.js.length c,(K.seat p).loc.js.length,(K.seat p).loc.js.flatMap jobCells⟩::rs):=by
 have hkat:=h.kat _ (List.mem_cons_self ..)
 have hok:=h.ok _ (List.mem_cons_self ..)
 simp only at hkat hok
 refine (kjobs_any Y K G m p W hkat hok).mono ?_
 rintro e W' ⟨v,rfl,h1,hb⟩
 rw [if_pos ⟨by omega,by omega⟩,Int.toNat_natCast] at h1
 obtain ⟨a,c,rfl⟩:=own_shape h1
 exact ⟨a,c,rfl,h.addRow hb (r:=⟨124,7,_,_,_⟩) h1⟩
theorem LawAt.callNew (h:LawAt w0 W ks bx rs) (c:Config) (v:Value) (start:Int) (hc:CfgV W v c) (h1:admitSpec c=0) (h2:clockB start=true):Calls Tryz.prog 16 #[v,.int .i64 start] W fun e W'=>∃ Y G,e=.returned (.tuple #[.pointer (some ⟨Y.kb,0,none⟩),.int .i64 0])/\LawAt w0 W' (⟨Y,newK c start,G,0⟩::ks) bx rs:=by
 refine (knew_any c v start W hc).mono ?_
 rintro e W' ⟨-,-,h3,hb⟩
 obtain ⟨Y,G,rfl,g1,g2⟩:=h3 h1 h2
 exact ⟨Y,G,rfl,h.new hb g1 (newK_ok (admit_cfg h1) h2) g2⟩
theorem LawAt.callNewBad (h:LawAt w0 W ks bx rs) (c:Config) (v:Value) (start:Int) (hc:CfgV W v c) (h1:admitSpec c≠0):Calls Tryz.prog 16 #[v,.int .i64 start] W fun e W'=>e=.returned (.tuple #[.pointer none,.int .i64 (admitSpec c)])/\LawAt w0 W' ks bx rs:=by
 refine (knew_any c v start W hc).mono ?_
 rintro e W' ⟨h3,-,-,hb⟩
 exact ⟨h3 h1,h.grow hb⟩
theorem LawAt.callNewClock (h:LawAt w0 W ks bx rs) (c:Config) (v:Value) (start:Int) (hc:CfgV W v c) (h1:admitSpec c=0) (h2:clockB start=false):Calls Tryz.prog 16 #[v,.int .i64 start] W fun e W'=>e=.returned (.tuple #[.pointer none,.int .i64 2200])/\LawAt w0 W' ks bx rs:=by
 refine (knew_any c v start W hc).mono ?_
 rintro e W' ⟨-,h3,-,hb⟩
 exact ⟨h3 h1 h2,h.grow hb⟩
end
end Go.Proofs.YtooeeiiiflfckaaGreat
