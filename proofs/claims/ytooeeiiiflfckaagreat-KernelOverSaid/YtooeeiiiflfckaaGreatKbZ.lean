/- Several texts of this claim as one. -/
import Derived.Test.YtooeeiiiflfckaaGreatKbY
import Derived.Test.YtooeeiiiflfckaaGreatKbX
import Derived.Test.YtooeeiiiflfckaaGreatAdmA
/- package kernel: Tick: what holds between its regions. -/
set_option linter.unusedVariables false
set_option linter.unusedSimpArgs false
namespace Go.Proofs.YtooeeiiiflfckaaGreat
open Go.RowKit
def rowC (t o:Int) (d:Bool) (md:Int) (v:Value):Array Value:=#[.int .i64 t,.int .i64 o,.bool d,.int .i64 md,v]
structure Tk7 (Y:KLay) (Ks:KSt) (G:Nat->Prop) (w:World) (lc lb la ls:Bool) (vc vb va:Value) (W:World):Prop where
 kat:∃ G1,KAt W Y (if lc=true then (boundK Ks).1 else Ks) G1/\Moves G G1 w W/\(lc=true->∃ a n c,vc=.slice a n c/\EvRow W w.heap.size (.slice a n c) (boundK Ks).2/\Off (.slice a n c) G1)/\(la=true->∃ g,va=.pointer (some ⟨g,0,none⟩)/\w.heap.size<=g/\¬ G1 g/\W.heap[g]?=some (.cells (if ls=true then rowC Ks.now 0 false 0 vc else rowC 0 0 false 0 (.slice none 0 0)) 41 (0,0)))
 bld:lb=true->lc=true/\vb=.agg (rowC Ks.now 0 false 0 vc)
theorem boundK_now (Ks:KSt):(boundK Ks).1.now=Ks.now:=by
 unfold boundK
 split <;> rfl
section
variable {Y:KLay} {Ks:KSt} {G:Nat->Prop} {w:World} {lc lb la ls:Bool} {vc vb va:Value} {W:World}
theorem Tk7.now (h:Tk7 Y Ks G w lc lb la ls vc vb va W):W.cell? ⟨Y.kb,0,none⟩=some (.int .i64 Ks.now):=by
 obtain ⟨⟨G1,k1,-⟩,-⟩:=h
 refine k1.cell 0 _ ?_
 cases lc
 ·rfl
 ·show some (vi (boundK Ks).1.now)=_
  rw [boundK_now]
  rfl
theorem Tk7.run (h:Tk7 Y Ks G w lc lb la ls vc vb va W) {m:Int} (hok:KOk Ks m) (h1:lc=false) (h2:lb=false) (h3:ls=false) :
  Calls Tryz.prog 42 #[.pointer (some ⟨Y.kb,0,none⟩)] W fun e W2=>∃ v,e=.returned v/\Tk7 Y Ks G w true lb la ls v vb va W2:=by
 subst h1 h2 h3
 obtain ⟨⟨G1,k1,k2,-,k4⟩,-⟩:=h
 refine (kbound_any Y Ks G1 m W k1 hok).mono ?_
 rintro e w5 ⟨a,n,c,rfl,G2,g1,g2,ho,hof⟩
 refine ⟨_,rfl,⟨G2,g1,k2.trans g2,fun _=>⟨a,n,c,rfl,own_low ho k2.size,hof⟩,fun q=>?_⟩,fun q=>(by cases q)⟩
 obtain ⟨g,q1,q2,q3,q4⟩:=k4 q
 exact ⟨g,q1,q2,(g2.at q4 q3).2,(g2.at q4 q3).1⟩
theorem Tk7.shape (h:Tk7 Y Ks G w lc lb la ls vc vb va W) (h1:lc=true):∃ a n c,vc=.slice a n c:=by
 obtain ⟨⟨G1,-,-,k3,-⟩,-⟩:=h
 obtain ⟨a,n,c,e,-⟩:=k3 h1
 exact ⟨a,n,c,e⟩
theorem Tk7.built (h:Tk7 Y Ks G w lc lb la ls vc vb va W) (h1:lc=true) {a:Option Addr} {n c:Nat} (hv:vc=.slice a n c):Tk7 Y Ks G w lc true la ls vc (.agg #[.int .i64 Ks.now,.int .i64 0,.bool false,.int .i64 0,.slice a n c]) va W:=⟨h.kat,fun _=>⟨h1,by rw [hv];rfl⟩⟩
theorem Tk7.box (h:Tk7 Y Ks G w lc lb la ls vc vb va W) (h3:ls=false):Tk7 Y Ks G w lc lb true ls vc vb (.pointer (some ⟨W.heap.size,0,none⟩)) (W.alloc (.cells #[.int .i64 0,.int .i64 0,.bool false,.int .i64 0,.slice none 0 0] 41)):=by
 subst h3
 obtain ⟨⟨G1,k1,k2,k3,-⟩,hb⟩:=h
 have hal:=balloc W (.cells #[.int .i64 0,.int .i64 0,.bool false,.int .i64 0,.slice none 0 0] 41)
 refine ⟨⟨G1,k1.below hal,k2.trans (Moves.of_below hal),fun q=>?_,fun _=>⟨_,rfl,k2.size,fun q=>by have:=k1.lt q;omega,blk_new _ _⟩⟩,hb⟩
 obtain ⟨a,n,c,e,h1,h2⟩:=k3 q
 exact ⟨a,n,c,e,Below.kept h1 hal,h2⟩
theorem Tk7.cell (h:Tk7 Y Ks G w lc lb la ls vc vb va W) (h2:lb=true) (h1:la=true) (h3:ls=false):∃ g,va=.pointer (some ⟨g,0,none⟩)/\W.heap[g]?=some (.cells (rowC 0 0 false 0 (.slice none 0 0)) 41 (0,0))/\vb=.agg (rowC Ks.now 0 false 0 vc):=by
 subst h3
 obtain ⟨⟨G1,k1,k2,k3,k4⟩,hb⟩:=h
 obtain ⟨g,q1,q2,q3,q4⟩:=k4 h1
 exact ⟨g,q1,q4,(hb h2).2⟩
theorem Tk7.one (h:Tk7 Y Ks G w lc lb la ls vc vb va W) (h2:lb=true):(rowC Ks.now 0 false 0 vc).all (·.oneCell')=true:=by
 obtain ⟨a,n,c,rfl⟩:=h.shape (h.bld h2).1
 simp [rowC,Value.oneCell']
theorem Tk7.put (h:Tk7 Y Ks G w lc lb la ls vc vb va W) (h2:lb=true) (h1:la=true) (h3:ls=false) {g:Nat} (eg:va=.pointer (some ⟨g,0,none⟩)):Tk7 Y Ks G w lc lb la true vc vb va (W.setRow g (rowC Ks.now 0 false 0 vc)):=by
 subst h3
 obtain ⟨⟨G1,k1,k2,k3,k4⟩,hb⟩:=h
 obtain ⟨g',q1,q2,q3,q4⟩:=k4 h1
 rw [eg] at q1
 injection q1 with q1
 injection q1 with q1
 injection q1 with q1
 subst q1
 have hgr:=setRow_grown W g (rowC Ks.now 0 false 0 vc)
 have hkeep:∀ k,k < W.heap.size->k≠g->(W.setRow g (rowC Ks.now 0 false 0 vc)).heap[k]?=W.heap[k]?:=fun k hk hne=>hgr.block k hk (fun e=>hne (by injection e))
 refine ⟨⟨G1,k1.far (fun k hk=>hkeep k (k1.lt hk) (fun e=>q3 (e ▸ hk))),⟨⟨hgr.os.trans k2.keep.os,hgr.tape.trans k2.keep.tape,hgr.output.trans k2.keep.output,Nat.le_trans k2.keep.size hgr.size,fun k hk hG=>(hkeep k (Nat.lt_of_lt_of_le hk k2.keep.size) (by omega)).trans (k2.keep.block k hk hG)⟩,k2.own⟩,fun q=>?_,fun _=>⟨g,eg,q2,q3,by rw [if_pos rfl];exact setRow_heap _ _ _ _ _ _ q4⟩⟩,hb⟩
 obtain ⟨a,n,c,e,o1,o2⟩:=k3 q
 exact ⟨a,n,c,e,own_apart o1 hgr (fun g2 e2=>by injection e2 with e2;rw [<-e2];exact ⟨_,q4⟩) (by decide),o2⟩
end
structure TkA (Y:KLay) (K1 K2:KSt) (G:Nat->Prop) (w:World) (gr g:Nat) (t o:Int) (d:Bool) (md:Int) (r:Value) (evs ev2:List Event) (lc la ls:Bool) (vc va:Value) (W:World):Prop where
 kat:∃ G1,KAt W Y (if lc=true then K2 else K1) G1/\Moves G G1 w W/\¬ G1 g/\¬ G1 gr/\W.heap[gr]?=some (.cells (rowC 0 0 false 0 (.slice none 0 0)) 41 (0,0))/\W.heap[g]?=some (.cells (rowC t o d md (if ls=true then va else r)) 41 (0,0)) /\
  (la=false->EvRow W w.heap.size r evs/\Off r G1)/\(lc=true->la=false->∃ a n c,vc=.slice a n c/\EvRow W w.heap.size (.slice a n c) ev2)/\(la=true->∃ a n c,va=.slice a n c/\EvRow W w.heap.size (.slice a n c) (evs ++ ev2)/\Off (.slice a n c) G1)
section
variable {Y:KLay} {K1 K2:KSt} {G:Nat->Prop} {w:World} {gr g:Nat} {t o:Int} {d:Bool} {md:Int} {r:Value} {evs ev2:List Event} {lc la ls:Bool} {vc va:Value} {W:World}
theorem TkA.cell (h:TkA Y K1 K2 G w gr g t o d md r evs ev2 lc la ls vc va W) (h3:ls=false):W.heap[g]?=some (.cells (rowC t o d md r) 41 (0,0)):=by
 subst h3
 obtain ⟨G1,-,-,-,-,-,q,-⟩:=h.kat
 exact q
theorem TkA.parts (h:TkA Y K1 K2 G w gr g t o d md r evs ev2 lc la ls vc va W) (h1:lc=true) (h2:la=false):EvRow W w.heap.size r evs/\∃ a n c,vc=.slice a n c/\EvRow W w.heap.size (.slice a n c) ev2:=by
 obtain ⟨G1,-,-,-,-,-,-,q1,q,-⟩:=h.kat
 exact ⟨(q1 h2).1,q h1 h2⟩
theorem TkA.size (h:TkA Y K1 K2 G w gr g t o d md r evs ev2 lc la ls vc va W):w.heap.size<=W.heap.size:=by
 obtain ⟨G1,-,k2,-⟩:=h.kat
 exact k2.size
theorem TkA.shape (h:TkA Y K1 K2 G w gr g t o d md r evs ev2 lc la ls vc va W) (h2:la=true):∃ a n c,va=.slice a n c:=by
 obtain ⟨G1,-,-,-,-,-,-,-,-,q⟩:=h.kat
 obtain ⟨a,n,c,e,-⟩:=q h2
 exact ⟨a,n,c,e⟩
theorem TkA.run (h:TkA Y K1 K2 G w gr g t o d md r evs ev2 lc la ls vc va W) {f:FuncId} {args:Array Value} (h1:lc=false) (h2:la=false) (h3:ls=false)
  (hcall:∀ G1,KAt W Y K1 G1->Moves G G1 w W->Calls Tryz.prog f args W fun e W2=>∃ a n c,e=.returned (.slice a n c)/\∃ G2,KAt W2 Y K2 G2/\Moves G1 G2 W W2/\EvRow W2 W.heap.size (.slice a n c) ev2/\Off (.slice a n c) G2) :
  Calls Tryz.prog f args W fun e W2=>∃ v,e=.returned v/\TkA Y K1 K2 G w gr g t o d md r evs ev2 true la ls v va W2:=by
 subst h1 h2 h3
 obtain ⟨G1,k1,k2,k3,k4,k5,k6,k7,-,-⟩:=h.kat
 refine (hcall G1 k1 k2).mono ?_
 rintro e w5 ⟨a,n,c,rfl,G2,g1,g2,ho,hof⟩
 have hr:=g2.own_row (k7 rfl).1 (k7 rfl).2
 exact ⟨_,rfl,⟨G2,g1,k2.trans g2,(g2.at k6 k3).2,(g2.at k5 k4).2,(g2.at k5 k4).1,(g2.at k6 k3).1,fun _=>hr,fun _ _=>⟨a,n,c,rfl,own_low ho k2.size⟩,fun q=>(by cases q)⟩⟩
theorem TkA.app (h:TkA Y K1 K2 G w gr g t o d md r evs ev2 lc la ls vc va W) (h1:lc=true) (h2:la=false) (h3:ls=false) (hg:g≠gr) {v:Value} {W2:World} (hown:W2.ownsRow w.heap.size 45 4 v (evs.length+ev2.length) (evs.flatMap evCells ++ ev2.flatMap evCells)) (hgr:W.grownBy W2 r.ownBlock) (hn:v.ownBlock=r.ownBlock∨v.ownBlock=some W.heap.size) :
  TkA Y K1 K2 G w gr g t o d md r evs ev2 lc true ls vc v W2:=by
 subst h1 h2 h3
 obtain ⟨G1,k1,k2,k3,k4,k5,k6,k7,k8,-⟩:=h.kat
 obtain ⟨a1,a2,a3⟩:=KAt.app2 (v':=v) k1 k2 (k7 rfl).1 (Nat.le_refl _) (k7 rfl).2 hgr hn
 have hty:∀ q,r.ownBlock=some q->Typed W q 45:=fun q hq=>own_typed (k7 rfl).1 hq
 obtain ⟨xa,xc,rfl⟩:=own_shape hown
 refine ⟨G1,a1,a2,k3,k4,?_,?_,fun q=>(by cases q),fun _ q=>(by cases q),fun _=>⟨_,_,_,rfl,evRow_app hown rfl rfl,a3⟩⟩
 ·exact (hgr.block gr (lt_of_block k5) (fun q=>absurd rfl (typed_ne ⟨_,k5⟩ (hty gr q.symm) (by decide)))).trans k5
 ·exact (hgr.block g (lt_of_block k6) (fun q=>absurd rfl (typed_ne ⟨_,k6⟩ (hty g q.symm) (by decide)))).trans k6
theorem TkA.put (h:TkA Y K1 K2 G w gr g t o d md r evs ev2 lc la ls vc va W) (h2:la=true) (hg:g≠gr) (hw:w.heap.size<=g):TkA Y K1 K2 G w gr g t o d md r evs ev2 lc la true vc va (W.setCell ⟨g,4,none⟩ va):=by
 subst h2
 obtain ⟨G1,k1,k2,k3,k4,k5,k6,k7,k8,k9⟩:=h.kat
 have hgr:=set_grown W g 4 va
 have hkeep:∀ k,k < W.heap.size->k≠g->(W.setCell ⟨g,4,none⟩ va).heap[k]?=W.heap[k]?:=fun k hk hne=>hgr.block k hk (fun e=>hne (by injection e))
 have hr:∀ g2,some g=some g2->Typed W g2 41:=fun g2 e2=>by injection e2 with e2;rw [<-e2];exact ⟨_,k6⟩
 have hs:=blk_set k6 4 va
 refine ⟨G1,k1.far (fun k hk=>hkeep k (k1.lt hk) (fun e=>k3 (e ▸ hk))),⟨⟨hgr.os.trans k2.keep.os,hgr.tape.trans k2.keep.tape,hgr.output.trans k2.keep.output,Nat.le_trans k2.keep.size hgr.size,fun k hk hG=>(hkeep k (Nat.lt_of_lt_of_le hk k2.keep.size) (by omega)).trans (k2.keep.block k hk hG)⟩,k2.own⟩,k3,k4,(hkeep gr (lt_of_block k5) (fun e=>hg e.symm)).trans k5,by rw [if_pos rfl];simpa [rowC] using hs,fun q=>(by cases q),fun _ q=>(by cases q),fun q=>?_⟩
 obtain ⟨a,n,c,e,ho,hf⟩:=k9 q
 exact ⟨a,n,c,e,own_apart ho hgr hr (by decide),hf⟩
end
def TkR (Y:KLay) (K1:KSt) (G:Nat->Prop) (w:World) (gr g:Nat) (t o:Int) (d:Bool) (md:Int) (evs:List Event) (ra:Option Addr) (rn rc:Nat) (W:World):Prop :=
 ∃ G1,KAt W Y K1 G1/\Moves G G1 w W/\¬ G1 g/\¬ G1 gr/\W.heap[gr]?=some (.cells (rowC 0 0 false 0 (.slice none 0 0)) 41 (0,0))/\W.heap[g]?=some (.cells (rowC t o d md (.slice ra rn rc)) 41 (0,0))/\EvRow W w.heap.size (.slice ra rn rc) evs/\Off (.slice ra rn rc) G1
theorem TkR.begin {Y:KLay} {K1 K2:KSt} {G:Nat->Prop} {w W:World} {gr g:Nat} {t o:Int} {d:Bool} {md:Int} {evs ev2:List Event} {ra:Option Addr} {rn rc:Nat} (h:TkR Y K1 G w gr g t o d md evs ra rn rc W) (a b:Value):TkA Y K1 K2 G w gr g t o d md (.slice ra rn rc) evs ev2 false false false a b W.drew:=by
 obtain ⟨G1,k1,k2,k3,k4,k5,k6,k7,k8⟩:=h
 exact ⟨G1,k1.below (below_drew (Below.refl _ _)),k2.trans (Moves.of_below (below_drew (Below.refl _ _))),k3,k4,k5,k6,fun _=>⟨k7,k8⟩,fun q=>(by cases q),fun q=>(by cases q)⟩
theorem TkA.done {Y:KLay} {K1 K2:KSt} {G:Nat->Prop} {w W:World} {gr g:Nat} {t o:Int} {d:Bool} {md:Int} {r:Value} {evs ev2:List Event} {va vc:Value} (h:TkA Y K1 K2 G w gr g t o d md r evs ev2 true true true vc va W):∃ ra rn rc,va=.slice ra rn rc/\TkR Y K2 G w gr g t o d md (evs ++ ev2) ra rn rc W:=by
 obtain ⟨G1,k1,k2,k3,k4,k5,k6,-,-,k9⟩:=h.kat
 obtain ⟨a,n,c,rfl,ho,hf⟩:=k9 rfl
 exact ⟨a,n,c,rfl,G1,k1,k2,k3,k4,k5,k6,ho,hf⟩
theorem entersK_snoc (es:List Entry):∀ (Ks:KSt) (e:Entry),entersK Ks (es ++ [e])=((enterK (entersK Ks es).1 e).1,(entersK Ks es).2 ++ (enterK (entersK Ks es).1 e).2):=by
 induction es with
 | nil=>intro Ks e;simp [entersK]
 | cons x r ih =>
  intro Ks e
  simp only [List.cons_append,entersK,ih,List.append_assoc]
theorem entersK_take (Ks:KSt) (es:List Entry) (k:Nat) (h:k < es.length):entersK Ks (es.take (k+1))=((enterK (entersK Ks (es.take k)).1 es[k]).1,(entersK Ks (es.take k)).2 ++ (enterK (entersK Ks (es.take k)).1 es[k]).2):=by
 rw [List.take_add_one,List.getElem?_eq_getElem h]
 exact entersK_snoc _ _ _
theorem pickEv_le (S:LSt) (i d now:Int):(pickEv S i d now).length<=8:=by
 unfold pickEv
 split <;> simp
theorem enterK_now (Ks:KSt) (e:Entry):(enterK Ks e).1.now=Ks.now:=by
 unfold enterK
 split
 ·rfl
 ·simp only
  split <;> rfl
theorem entersK_now (es:List Entry):∀ (Ks:KSt),(entersK Ks es).1.now=Ks.now:=by
 induction es with
 | nil=>intro Ks;rfl
 | cons x r ih=>intro Ks;exact (ih _).trans (enterK_now Ks x)
theorem enterK_le (Ks:KSt) (e:Entry):(enterK Ks e).2.length<=8:=by
 unfold enterK
 split
 ·simp
 ·simp only
  split
  ·simp
  ·exact pickEv_le _ _ _ _
theorem entersK_le (es:List Entry):∀ (Ks:KSt),(entersK Ks es).2.length<=8*es.length:=by
 induction es with
 | nil=>intro Ks;simp [entersK]
 | cons x r ih =>
  intro Ks
  have h1:=ih (enterK Ks x).1
  have h2:=enterK_le Ks x
  simp only [entersK,List.length_append,List.length_cons]
  omega
theorem boundK_le (Ks:KSt):(boundK Ks).2.length<=1:=by
 unfold boundK
 split
 ·simp
 ·simp only
  split <;> simp
theorem EntryAt.far {W W':World} {b o:Nat} {e:Entry} (h:EntryAt W b o e) (hk:W'.heap[b]?=W.heap[b]?):EntryAt W' b o e:=⟨h.1.far hk,h.2.1.far hk,h.2.2.1.far hk,h.2.2.2.1.far hk,h.2.2.2.2.far hk⟩
theorem TkR.below {Y:KLay} {K1:KSt} {G:Nat->Prop} {w W W':World} {gr g:Nat} {t o:Int} {d:Bool} {md:Int} {evs:List Event} {ra:Option Addr} {rn rc:Nat} (h:TkR Y K1 G w gr g t o d md evs ra rn rc W) (hb:Below W.heap.size W W'):TkR Y K1 G w gr g t o d md evs ra rn rc W':=by
 obtain ⟨G1,k1,k2,k3,k4,k5,k6,k7,k8⟩:=h
 exact ⟨G1,k1.below hb,k2.trans (Moves.of_below hb),k3,k4,keep_at k5 hb,keep_at k6 hb,Below.kept k7 hb,k8⟩
theorem TkR.act {Y:KLay} {K1 K2:KSt} {G:Nat->Prop} {w W:World} {gr g:Nat} {t o:Int} {d:Bool} {md:Int} {evs:List Event} {ra:Option Addr} {rn rc:Nat} (h:TkR Y K1 G w gr g t o d md evs ra rn rc W) {f:FuncId} {args:Array Value} {res:Value}
  (hcall:∀ G1,KAt W Y K1 G1->Calls Tryz.prog f args W fun e W2=>e=.returned res/\∃ G2,KAt W2 Y K2 G2/\Moves G1 G2 W W2) :
  Calls Tryz.prog f args W fun e W2=>e=.returned res/\TkR Y K2 G w gr g t o d md evs ra rn rc W2:=by
 obtain ⟨G1,k1,k2,k3,k4,k5,k6,k7,k8⟩:=h
 refine (hcall G1 k1).mono ?_
 rintro e W2 ⟨rfl,G2,g1,g2⟩
 have hr:=g2.own_row k7 k8
 exact ⟨rfl,G2,g1,k2.trans g2,(g2.at k6 k3).2,(g2.at k5 k4).2,(g2.at k5 k4).1,(g2.at k6 k3).1,hr.1,hr.2⟩
theorem TkR.call {Y:KLay} {K1 K2:KSt} {G:Nat->Prop} {w W:World} {gr g:Nat} {t o:Int} {d:Bool} {md:Int} {evs ev2:List Event} {ra:Option Addr} {rn rc:Nat} (h:TkR Y K1 G w gr g t o d md evs ra rn rc W) {f:FuncId} {args:Array Value} (res:Option Addr->Nat->Nat->Value)
  (hcall:∀ G1,KAt W Y K1 G1->Calls Tryz.prog f args W fun e W2=>∃ a n c,e=.returned (res a n c)/\∃ G2,KAt W2 Y K2 G2/\Moves G1 G2 W W2/\EvRow W2 W.heap.size (.slice a n c) ev2/\Off (.slice a n c) G2) :
  Calls Tryz.prog f args W fun e W2=>∃ a n c,e=.returned (res a n c)/\∀ va,TkA Y K1 K2 G w gr g t o d md (.slice ra rn rc) evs ev2 true false false (.slice a n c) va W2:=by
 obtain ⟨G1,k1,k2,k3,k4,k5,k6,k7,k8⟩:=h
 refine (hcall G1 k1).mono ?_
 rintro e W2 ⟨a,n,c,rfl,G2,g1,g2,ho,hof⟩
 have hr:=g2.own_row k7 k8
 exact ⟨a,n,c,rfl,fun va=>⟨G2,g1,k2.trans g2,(g2.at k6 k3).2,(g2.at k5 k4).2,(g2.at k5 k4).1,(g2.at k6 k3).1,fun _=>hr,fun _ _=>⟨a,n,c,rfl,own_low ho k2.size⟩,fun q=>(by cases q)⟩⟩
theorem TkR.cellPut {Y:KLay} {K1:KSt} {G:Nat->Prop} {w W:World} {gr g:Nat} {t o:Int} {d:Bool} {md:Int} {evs:List Event} {ra:Option Addr} {rn rc:Nat} (h:TkR Y K1 G w gr g t o d md evs ra rn rc W) (hg:g≠gr) (hw:w.heap.size<=g) {j:Nat} {u:Value} {t' o':Int} {d':Bool} {md':Int} (hu:(rowC t o d md (.slice ra rn rc)).setIfInBounds j u=rowC t' o' d' md' (.slice ra rn rc)):TkR Y K1 G w gr g t' o' d' md' evs ra rn rc (W.setCell ⟨g,j,none⟩ u):=by
 obtain ⟨G1,k1,k2,k3,k4,k5,k6,k7,k8⟩:=h
 have hgr:=set_grown W g j u
 have hkeep:∀ k,k < W.heap.size->k≠g->(W.setCell ⟨g,j,none⟩ u).heap[k]?=W.heap[k]?:=fun k hk hne=>hgr.block k hk (fun e=>hne (by injection e))
 have hr:∀ g2,some g=some g2->Typed W g2 41:=fun g2 e2=>by injection e2 with e2;rw [<-e2];exact ⟨_,k6⟩
 have hs:=blk_set k6 j u
 rw [hu] at hs
 exact ⟨G1,k1.far (fun k hk=>hkeep k (k1.lt hk) (fun e=>k3 (e ▸ hk))),⟨⟨hgr.os.trans k2.keep.os,hgr.tape.trans k2.keep.tape,hgr.output.trans k2.keep.output,Nat.le_trans k2.keep.size hgr.size,fun k hk hG=>(hkeep k (Nat.lt_of_lt_of_le hk k2.keep.size) (by omega)).trans (k2.keep.block k hk hG)⟩,k2.own⟩,k3,k4,(hkeep gr (lt_of_block k5) (fun e=>hg e.symm)).trans k5,hs,own_apart k7 hgr hr (by decide),k8⟩
theorem TkR.cells {Y:KLay} {K1:KSt} {G:Nat->Prop} {w W:World} {gr g:Nat} {t o:Int} {d:Bool} {md:Int} {evs:List Event} {ra:Option Addr} {rn rc:Nat} (h:TkR Y K1 G w gr g t o d md evs ra rn rc W):W.heap[g]?=some (.cells (rowC t o d md (.slice ra rn rc)) 41 (0,0))/\W.heap[gr]?=some (.cells (rowC 0 0 false 0 (.slice none 0 0)) 41 (0,0))/\EvRow W w.heap.size (.slice ra rn rc) evs/\w.heap.size<=W.heap.size:=by
 obtain ⟨G1,k1,k2,k3,k4,k5,k6,k7,k8⟩:=h
 exact ⟨k6,k5,k7,k2.size⟩
theorem TkR.kern {Y:KLay} {K1:KSt} {G:Nat->Prop} {w W:World} {gr g:Nat} {t o:Int} {d:Bool} {md:Int} {evs:List Event} {ra:Option Addr} {rn rc:Nat} (h:TkR Y K1 G w gr g t o d md evs ra rn rc W):∃ G1,KAt W Y K1 G1:=by
 obtain ⟨G1,k1,-⟩:=h
 exact ⟨G1,k1⟩
theorem TkR.fin {Y:KLay} {K1:KSt} {G:Nat->Prop} {w W:World} {gr g:Nat} {t o:Int} {d:Bool} {md:Int} {evs:List Event} {ra:Option Addr} {rn rc:Nat} (h:TkR Y K1 G w gr g t o d md evs ra rn rc W) {w0:World} (hb:Below w0.heap.size w0 w) (hw:w0.heap.size<=gr) (x:Int) {cs:Array Value} {W':World} (hW:W'=(W.setCell ⟨Y.kb,0,none⟩ (.int .i64 x)).setRow gr cs) :
  ∃ G',KAt W' Y { K1 with now:=x } G'/\Moves G G' w0 W'/\EvRow W' w0.heap.size (.slice ra rn rc) evs/\Off (.slice ra rn rc) G':=by
 obtain ⟨G1,k1,k2,k3,k4,k5,k6,k7,k8⟩:=h
 have hc:=setNow_at k1.kern.1 x
 obtain ⟨G2,g1,g2⟩:=k1.setKern (K':={ K1 with now:=x }) (set_grown W Y.kb 0 (.int .i64 x)) rfl rfl rfl hc
 obtain ⟨W1,hW1⟩:∃ W1,W1=W.setCell ⟨Y.kb,0,none⟩ (.int .i64 x):=⟨_,rfl⟩
 rw [<-hW1] at hW g1 g2
 have h5:=g2.at k5 k4
 have h7:=g2.own_row k7 k8
 have hgr:=setRow_grown W1 gr cs
 rw [<-hW] at hgr
 have hkeep:∀ k,k < W1.heap.size->k≠gr->W'.heap[k]?=W1.heap[k]?:=fun k hk hne=>hgr.block k hk (fun e=>hne (by injection e))
 have k2':=(Moves.of_below hb).trans (k2.trans g2)
 have hr:∀ g2,some gr=some g2->Typed W1 g2 41:=fun g2 e2=>by injection e2 with e2;rw [<-e2];exact ⟨_,h5.1⟩
 exact ⟨G2,g1.far (fun k hk=>hkeep k (g1.lt hk) (fun e=>h5.2 (e ▸ hk))),⟨⟨hgr.os.trans k2'.keep.os,hgr.tape.trans k2'.keep.tape,hgr.output.trans k2'.keep.output,Nat.le_trans k2'.keep.size hgr.size,fun k hk hG=>(hkeep k (Nat.lt_of_lt_of_le hk k2'.keep.size) (by omega)).trans (k2'.keep.block k hk hG)⟩,k2'.own⟩,own_low (own_apart h7.1 hgr hr (by decide)) hb.size,h7.2⟩
theorem begE_le (S:LSt) (now:Int) {m:Int} (h:LWf S m):(begE S now).length<=22:=by
 unfold begE
 have h1:=(relN_len { S with js:=leftJ S.js now } now S.rs.length).2.2.2
 have h2:=h.len
 have h3:=((jobsMay_iff _).1 h.js).2
 have h4:(missEv S now).length<=16:=by
  unfold missEv lateJ
  split
  ·rw [List.length_map]
   exact Nat.le_trans (List.length_filter_le _ _) h3
  ·simp
 rw [List.length_append]
 omega
theorem beginsK_le {K:KSt} {m:Int} (h:KOk K m) (k:Nat) (hk:k<=K.seats.length):(beginsK K k).2.length<=22*k:=by
 induction k with
 | zero=>simp [beginsK]
 | succ k ih =>
  have h1:=ih (by omega)
  have h2:=(beginsK_ok h k (by omega)).loc k (by rw [(beginsK_same K k).1.len];omega)
  have h3:=begE_le ((beginsK K k).1.seat k).loc K.now h2
  simp only [beginsK,List.length_append]
  omega
theorem failEv_le (S:LSt):(failEv S).length<=1:=by
 unfold failEv
 split <;> simp
theorem stepK_le (K:KSt) (i:Nat):(stepK K i).2.length<=6:=by
 unfold stepK
 simp only
 split
 ·exact Nat.le_trans (failEv_le _) (by decide)
 ·have h1:=outsideK_le (K.setSeat i { K.seat i with vm:=(stepV (K.seat i).code (K.seat i).vm ((K.seat i).inp.headD 0) (outsS K.ports i) (getsS K.ports i)).1 }) i (stepV (K.seat i).code (K.seat i).vm ((K.seat i).inp.headD 0) (outsS K.ports i) (getsS K.ports i)).2.1
  have h2:=chargeK_le (outsideK (K.setSeat i { K.seat i with vm:=(stepV (K.seat i).code (K.seat i).vm ((K.seat i).inp.headD 0) (outsS K.ports i) (getsS K.ports i)).1 }) i (stepV (K.seat i).code (K.seat i).vm ((K.seat i).inp.headD 0) (outsS K.ports i) (getsS K.ports i)).2.1).1 i
  rw [List.length_append]
  exact Nat.le_trans (Nat.add_le_add h1 h2) (by decide)
end Go.Proofs.YtooeeiiiflfckaaGreat
/- package kernel: Tick. -/
namespace Go.Proofs.YtooeeiiiflfckaaGreat
open Go.RowKit
def T7V (Y:KLay) (Ks:KSt) (a:Nat) (v:Value):Prop:=match a with
 | 0=>v=.pointer (some ⟨Y.kb,0,none⟩)
 | 1=>v=.pointer (some ⟨Y.kb,0,none⟩)
 | 2=>v=.pointer (some ⟨Y.kb,0,none⟩)
 | 3=>v=.pointer (some ⟨Y.kb,0,none⟩)
 | 4=>v=.pointer (some ⟨Y.kb,0,none⟩)
 | 5=>v=.int .i64 Ks.now
 | 6=>v=.pointer (some ⟨Y.kb,0,none⟩)
 | _=>True
def T11V (Y:KLay) (g ne ec k eb eo:Nat) (ra:Option Addr) (rn rc:Nat) (a:Nat) (v:Value):Prop:=match a with
 | 0=>v=.pointer (some ⟨g,4,none⟩)
 | 1=>v=.slice ra rn rc
 | 2=>v=.pointer (some ⟨Y.kb,0,none⟩)
 | 3=>v=.slice (some ⟨eb,eo,none⟩) ne ec
 | 4=>v=.int .i64 (k:Int)
 | 5=>v=.pointer (some ⟨eb,eo+k*5,none⟩)
 | 8=>v=.pointer (some ⟨g,4,none⟩)
 | _=>True
def T16V (Y:KLay) (Ks:KSt) (k:Nat) (a:Nat) (v:Value):Prop:=match a with
 | 0=>v=.pointer (some ⟨Y.sb k,0,none⟩)
 | 1=>v=.pointer (some ⟨Y.sb k,0,none⟩)
 | 2=>v=.pointer (some ⟨Y.sb k,0,none⟩)
 | 3=>v=.pointer (some ⟨Y.lb k,0,none⟩)
 | 4=>v=.pointer (some ⟨Y.kb,0,none⟩)
 | 5=>v=.pointer (some ⟨Y.kb,0,none⟩)
 | 6=>v=.pointer (some ⟨Y.kb,0,none⟩)
 | 7=>v=.pointer (some ⟨Y.kb,0,none⟩)
 | 8=>v=.pointer (some ⟨Y.kb,0,none⟩)
 | 9=>v=.int .i64 Ks.now
 | _=>True
def T21V (Y:KLay) (g j:Nat) (ra:Option Addr) (rn rc:Nat) (a:Nat) (v:Value):Prop:=match a with
 | 0=>v=.pointer (some ⟨g,4,none⟩)
 | 1=>v=.slice ra rn rc
 | 2=>v=.pointer (some ⟨Y.kb,0,none⟩)
 | 3=>v=.pointer (some ⟨g,1,none⟩)
 | 4=>v=.int .i64 (j:Int)
 | 7=>v=.pointer (some ⟨g,4,none⟩)
 | _=>True
set_option maxRecDepth 100000 in
set_option maxHeartbeats 16000000 in
theorem ktick_main (Y:KLay) (Ks:KSt) (G:Nat->Prop) (m:Int) (w:World) (h:KAt w Y Ks G) (hk:KOk Ks m) (hm:m < 1000000000000000000) (es:List Entry) (ea:Option Addr) (ne ec:Nat) (hne:ne=es.length) (he:EntriesV w (.slice ea ne ec) es) (hea:∀ a,ea=some a->¬ G a.block) (hmx:Ks.now≠1099511627776) (hlen:ne<=512) :
  Calls Tryz.prog 18 #[.pointer (some ⟨Y.kb,0,none⟩),.slice ea ne ec] w fun e w'=>∃ a n c,e=.returned (.tuple #[.agg (rowC (tickK Ks es).2.tick (tickK Ks es).2.owner (tickK Ks es).2.dealt (tickK Ks es).2.mode (.slice a n c)),.int .i64 0])/\∃ G',KAt w' Y (tickK Ks es).1 G'/\Moves G G' w w'/\EvRow w' w.heap.size (.slice a n c) (tickK Ks es).2.events/\Off (.slice a n c) G':=by
 have HW0:=Lib.hid h
 have HOK:=Lib.hid hk
 have HEN:=Lib.hid he
 have HEA:=Lib.hid hea
 have HNE:=Lib.hid hne
 clear hne
 obtain ⟨wa,gr,hw_wa,hg_gr,hb_wa,hk_gr,hs_wa⟩:=alloc_all w (.cells #[.int .i64 0,.int .i64 0,.bool false,.int .i64 0,.slice none 0 0] 41)
 have hA:=h.below hb_wa
 have kb0:=hA.cell 0 (.int .i64 Ks.now) rfl
 have e0:(Ks.now == 1099511627776)=false:=by simpa using hmx
 have e1:¬ (512:Int) < (ne:Int):=by omega
 have e2:decide ((ne:Int) > 512)=false:=decide_eq_false (by omega)
 have e3:decide (512 < ne)=false:=decide_eq_false (by omega)
 have HA:=Lib.hid hA
 have HBW:=Lib.hid hb_wa
 have HKR:=Lib.hid hk_gr
 have HLR:=Lib.hid (show w.heap.size<=gr/\gr < wa.heap.size by omega)
 have hgn:¬ G gr:=fun q=>by have:=h.lt q;omega
 have HGN:=Lib.hid hgn
 clear h hk he hea hmx hA hk_gr hb_wa hgn
 have HS0:=Lib.hid (show ∀ a b c,Tk7 Y Ks G wa false false false false a b c wa.drew from fun a b c=>⟨⟨G,HA.out.below (below_drew (Below.refl _ _)),Moves.of_below (below_drew (Below.refl _ _)),fun q=>(by cases q),fun q=>(by cases q)⟩,fun q=>(by cases q)⟩)
 have HS0:Hid (∀ a b c,Tk7 Y Ks G wa false false false false a b c wa.drew):=HS0
 go_enter Tryz.func18,Tryz.ntmps18
 go_upto_region 1 with (fail)
 rw [<-hw_wa]
 (try rw [<-hg_gr])
 clear hw_wa hg_gr hs_wa
 go_wp2_with fail
 refine region_inv0 rfl (by kernel_rfl) (WInv2 (T7V Y Ks) (fun L vs W=>Tk7 Y Ks G wa (L 7) (L 8) (L 9) (L 10) (vs 7) (vs 8) (vs 9) W)) (fun vs h0=>⟨(fun i h=>by cases h),HS0.out _ _ _⟩) ?_ ?_
 ·simp (config:={ maxSteps:=4000000 }) only [List.map,putAll,Act.put,InvE,List.setIfInBounds_toArray,List.set_cons_succ,List.set_cons_zero,Nat.reduceAdd]
  refine ⟨?_,?_,?_,?_,?_,?_,?_,?_,?_,?_,?_,trivial⟩
  all_goals intro L vs W hI hi hn hcl K hK
  ·rw [if_pos (by simp [Region.wanted])]
   have HK:=Lib.hid (fun (v:Value) (h:v=.pointer (some ⟨Y.kb,0,none⟩))=>hK v W ⟨pv_upd hI.pv h,hI.st⟩)
   clear hK hI hn hcl hi
   go_simp
   exact HK.out _ rfl
  ·have r0:vs 0=_:=hI.pv 0 (hn 0 rfl)
   rw [if_pos (by simp [Region.wanted])]
   simp only [r0] at hK |-
   have HK:=Lib.hid (fun (v:Value) (h:v=.pointer (some ⟨Y.kb,0,none⟩))=>hK v W ⟨pv_upd hI.pv h,hI.st⟩)
   clear hK hI hn hcl hi
   go_simp
   exact HK.out _ rfl
  ·have r1:vs 1=_:=hI.pv 1 (hn 1 rfl)
   rw [if_pos (by simp [Region.wanted])]
   simp only [r1] at hK |-
   have HK:=Lib.hid (fun (v:Value) (h:v=.pointer (some ⟨Y.kb,0,none⟩))=>hK v W ⟨pv_upd hI.pv h,hI.st⟩)
   clear hK hI hn hcl hi
   go_simp
   exact HK.out _ rfl
  ·have r2:vs 2=_:=hI.pv 2 (hn 2 rfl)
   rw [if_pos (by simp [Region.wanted])]
   simp only [r2] at hK |-
   have HK:=Lib.hid (fun (v:Value) (h:v=.pointer (some ⟨Y.kb,0,none⟩))=>hK v W ⟨pv_upd hI.pv h,hI.st⟩)
   clear hK hI hn hcl hi
   go_simp
   exact HK.out _ rfl
  ·have r3:vs 3=_:=hI.pv 3 (hn 3 rfl)
   rw [if_pos (by simp [Region.wanted])]
   simp only [r3] at hK |-
   have HK:=Lib.hid (fun (v:Value) (h:v=.pointer (some ⟨Y.kb,0,none⟩))=>hK v W ⟨pv_upd hI.pv h,hI.st⟩)
   clear hK hI hn hcl hi
   go_simp
   exact HK.out _ rfl
  ·have r4:vs 4=_:=hI.pv 4 (hn 4 rfl)
   rw [if_pos (by simp [Region.wanted])]
   have hS:=hI.st
   have b5:=hS.now
   simp only [r4] at hK |-
   have HK:=Lib.hid (fun (v:Value) (h:v=.int .i64 Ks.now)=>hK v W ⟨pv_upd hI.pv h,hI.st⟩)
   clear hK hI hn hcl hi
   go_simp
   exact HK.out _ rfl
  ·rw [if_pos (by simp [Region.wanted])]
   have HK:=Lib.hid (fun (v:Value) (h:v=.pointer (some ⟨Y.kb,0,none⟩))=>hK v W ⟨pv_upd hI.pv h,hI.st⟩)
   clear hK hI hn hcl hi
   go_simp
   exact HK.out _ rfl
  ·have r6:vs 6=_:=hI.pv 6 (hn 6 rfl)
   rw [if_pos (by simp [Region.wanted])]
   simp only [r6] at hK |-
   have hb:L 8=false:=by
    cases h:L 8
    ·rfl
    ·exact absurd (hcl 8 _ rfl h 7 rfl) (Bool.eq_false_iff.1 hi)
   have hs:L 10=false:=by
    cases h:L 10
    ·rfl
    ·exact absurd (hcl 8 _ rfl (hcl 10 _ rfl h 8 rfl) 7 rfl) (Bool.eq_false_iff.1 hi)
   have HH:=Lib.hid (And.intro hi (And.intro hb hs))
   clear hb hs
   have HI:=Lib.hid hI.st
   have HP:=Lib.hid hI.pv
   have HK:=Lib.hid hK
   clear hK hI hn hcl hi
   go_simp
   refine (HI.out.run HOK.out HH.out.1 HH.out.2.1 HH.out.2.2).mono ?_
   rintro e w5 ⟨v,rfl,h5⟩
   exact HK.out v w5 ⟨pv_upd HP.out trivial,h5⟩
  ·have r5:vs 5=_:=hI.pv 5 (hn 5 rfl)
   rw [if_pos (by simp [Region.wanted])]
   simp only [r5] at hK |-
   obtain ⟨qa,qn,qc,hv⟩:=hI.st.shape (hn 7 rfl)
   have hlc:=hn 7 rfl
   have HV:=Lib.hid hv
   have HLC:=Lib.hid hlc
   simp only [hv] at hK |-
   clear hv hlc
   have HI:=Lib.hid hI.st
   have HP:=Lib.hid hI.pv
   have HK:=Lib.hid hK
   clear hK hI hn hcl hi
   go_simp
   exact HK.out _ _ ⟨pv_upd HP.out trivial,HI.out.built HLC.out HV.out⟩
  ·rw [if_pos (by simp [Region.wanted])]
   have hs:L 10=false:=by
    cases h:L 10
    ·rfl
    ·exact absurd (hcl 10 _ rfl h 9 rfl) (Bool.eq_false_iff.1 hi)
   have HH:=Lib.hid hs
   clear hs
   have HI:=Lib.hid hI.st
   have HP:=Lib.hid hI.pv
   have HK:=Lib.hid hK
   clear hK hI hn hcl hi
   go_simp
   exact HK.out _ _ ⟨pv_upd HP.out trivial,HI.out.box HH.out⟩
  ·rw [if_pos (by simp [Region.wanted])]
   obtain ⟨g,eg,hg,ey⟩:=hI.st.cell (hn 8 rfl) (hn 9 rfl) hi
   refine wp_store_row 41 _ _ rfl g (rowC Ks.now 0 false 0 (vs 7)) (by simpa [Act.eval] using eg) (by simpa [Act.eval] using ey) _ _ hg (by kernel_rfl) rfl (hI.st.one (hn 8 rfl)) ?_
   exact hK undef _ ⟨pv_upd hI.pv trivial,hI.st.put (hn 8 rfl) (hn 9 rfl) hi eg⟩
 ·intro vs W hI
  simp only [List.map,putAll,Act.put,List.setIfInBounds_toArray,List.set_cons_succ,List.set_cons_zero,Nat.reduceAdd]
  have hS:=hI.st
  have r0:vs 0=_:=hI.pv 0 (by simp)
  have r1:vs 1=_:=hI.pv 1 (by simp)
  have r2:vs 2=_:=hI.pv 2 (by simp)
  have r3:vs 3=_:=hI.pv 3 (by simp)
  have r4:vs 4=_:=hI.pv 4 (by simp)
  have r5:vs 5=_:=hI.pv 5 (by simp)
  have r6:vs 6=_:=hI.pv 6 (by simp)
  simp only [r0,r1,r2,r3,r4,r5,r6]
  clear hI r0 r1 r2 r3 r4 r5 r6
  obtain ⟨⟨G1,k1,k2,k3,k4⟩,-⟩:=hS
  obtain ⟨ra,rn,rc,hv,ho,hof⟩:=k3 rfl
  obtain ⟨g,eg,hg1,hg2,hg3⟩:=k4 rfl
  rw [if_pos (by simp)] at hg3 k1
  rw [hv] at hg3
  have hgr:=k2.at (show wa.heap[gr]?=some (.cells (rowC 0 0 false 0 (.slice none 0 0)) 41 (0,0)) from HKR.out) HGN.out
  have HR0:=Lib.hid (show TkR Y (boundK Ks).1 G wa gr g Ks.now 0 false 0 (boundK Ks).2 ra rn rc W from ⟨G1,k1,k2,hg2,hgr.2,hgr.1,hg3,ho,hof⟩)
  have HGG:=Lib.hid (show g≠gr/\wa.heap.size<=g by have:=HLR.out;omega)
  simp only [eg]
  clear k1 k2 k3 k4 hv ho hof eg hg1 hg2 hg3 hgr
  go_wp2_with fail
  go_loopw [7,41] (fun _ i wr=>∃ (k:Nat) (ra:Option Addr) (rn rc:Nat),k<=ne/\i=.int .i64 k/\Hid (TkR Y (entersK (boundK Ks).1 (es.take k)).1 G wa gr g Ks.now 0 false 0 ((boundK Ks).2 ++ (entersK (boundK Ks).1 (es.take k)).2) ra rn rc wr)) (fun _ i _=>ne - (intOf i).toNat)
  case atStart=>exact ⟨0,ra,rn,rc,by omega,rfl,Lib.hid (by simpa [entersK] using HR0.out)⟩
  case round =>
   obtain ⟨k,ra,rn,rc,hkn,rfl,HR⟩:=hrel
   by_cases hlt:k < ne
   ·have hlt':k < es.length:=by rw [<-HNE.out];exact hlt
    obtain ⟨a',c',e,-,-,-,h4⟩:=HEN.out
    injection e with e1 e2 e3
    subst e1
    obtain ⟨eb,eo,hea2,hce⟩:=h4 (by intro q;rw [q] at hlt';simp at hlt')
    subst hea2
    have hen:=hce k hlt'
    have hnb:=HEA.out _ rfl
    have hlk:(k:Int) < (ne:Int):=by omega
    have htk:=entersK_take (boundK Ks).1 es k hlt'
    have hle1:=entersK_le (es.take k) (boundK Ks).1
    have hle2:=boundK_le Ks
    have hokc:=entersK_ok (es.take k) (boundK_ok HOK.out)
    have hnow:(entersK (boundK Ks).1 (es.take k)).1.now=Ks.now:=(entersK_now _ _).trans (boundK_now Ks)
    obtain ⟨Kc,hKc⟩:∃ Kc,Kc=(entersK (boundK Ks).1 (es.take k)).1:=⟨_,rfl⟩
    obtain ⟨evs,hevs⟩:∃ evs,evs=(boundK Ks).2 ++ (entersK (boundK Ks).1 (es.take k)).2:=⟨_,rfl⟩
    have hle3:=enterK_le Kc es[k]
    have hlt5:(es.take k).length<=512:=by simp;omega
    have HLB:Hid (evs.length+(enterK Kc es[k]).2.length<=10000):=Lib.hid (by rw [hevs,List.length_append];omega)
    clear hlt5
    rw [<-hKc] at hokc HR htk
    rw [<-hevs] at HR
    have hel:eb < w.heap.size:=by
     obtain ⟨q0,-⟩:=hen
     unfold IntAt World.cell? at q0
     cases hq:w.heap[eb]? with
     | none=>simp [hq] at q0
     | some o=>exact lt_of_block hq
    have hht:wa.heap[eb]?=w.heap[eb]?:=HBW.out.block eb hel
    have hel2:eb < wa.heap.size:=by have:=HBW.out.size;omega
    have HCALL:Hid (∀ W G1,KAt W Y Kc G1->Moves G G1 wa W->Calls Tryz.prog 43 #[.pointer (some ⟨Y.kb,0,none⟩),.pointer (some ⟨eb,eo+k*5,none⟩)] W fun e W2=>∃ a n c,e=.returned (.slice a n c)/\∃ G2,KAt W2 Y (enterK Kc es[k]).1 G2/\Moves G1 G2 W W2/\EvRow W2 W.heap.size (.slice a n c) (enterK Kc es[k]).2/\Off (.slice a n c) G2):=Lib.hid (fun W G1 q1 q2=>kenter_any Y Kc G1 m W q1 hokc eb (eo+k*5) es[k] (hen.far ((q2.still hel2 hnb).1.trans hht)))
    have HS1:=Lib.hid (fun a b=>HR.out.begin (K2:=(enterK Kc es[k]).1) (ev2:=(enterK Kc es[k]).2) a b)
    have HTK:=Lib.hid htk
    have HEV:=Lib.hid hevs
    have HS0:=HS1
    have HSW:=Lib.hid (show (0:Nat)=0 from rfl)
    clear h4 hce hen hnb htk hle1 hle2 hle3 hokc hKc hevs hht hel hel2 e2 e3 hnow
    go_wp2_with fail
    refine region_inv0 rfl (by kernel_rfl) (WInv2 (T11V Y g ne ec k eb eo ra rn rc) (fun L vs W=>TkA Y Kc (enterK Kc es[k]).1 G wa gr g Ks.now 0 false 0 (.slice ra rn rc) evs (enterK Kc es[k]).2 (L 6) (L 7) (L 9) (vs 6) (vs 7) W)) (fun vs h0=>⟨(fun i h=>by cases h),HS0.out _ _⟩) ?_ ?_
    ·simp (config:={ maxSteps:=4000000 }) only [List.map,putAll,Act.put,InvE,List.setIfInBounds_toArray,List.set_cons_succ,List.set_cons_zero,Nat.reduceAdd]
     refine ⟨?_,?_,?_,?_,?_,?_,?_,?_,?_,?_,trivial⟩
     all_goals intro L vs W hI hi hn hcl K hK
     ·rw [if_pos (by simp [Region.wanted])]
      have HK:=Lib.hid (fun (v:Value) (h:v=.pointer (some ⟨g,4,none⟩))=>hK v W ⟨pv_upd hI.pv h,hI.st⟩)
      clear hK hI hn hcl hi
      go_simp
      exact HK.out _ rfl
     ·have r0:vs 0=_:=hI.pv 0 (hn 0 rfl)
      rw [if_pos (by simp [Region.wanted])]
      have hS:=hI.st
      have hs:L 9=false:=by
       cases h:L 9
       ·rfl
       ·exact absurd (hcl 7 _ rfl (hcl 9 _ rfl h 7 rfl) 1 rfl) (Bool.eq_false_iff.1 hi)
      have b4:=BlockIs.of (hI.st.cell hs) 4 (.slice ra rn rc) rfl
      simp only [r0] at hK |-
      have HK:=Lib.hid (fun (v:Value) (h:v=.slice ra rn rc)=>hK v W ⟨pv_upd hI.pv h,hI.st⟩)
      clear hK hI hn hcl hi
      go_simp
      exact HK.out _ rfl
     ·rw [if_pos (by simp [Region.wanted])]
      have HK:=Lib.hid (fun (v:Value) (h:v=.pointer (some ⟨Y.kb,0,none⟩))=>hK v W ⟨pv_upd hI.pv h,hI.st⟩)
      clear hK hI hn hcl hi
      go_simp
      exact HK.out _ rfl
     ·rw [if_pos (by simp [Region.wanted])]
      have HK:=Lib.hid (fun (v:Value) (h:v=.slice (some ⟨eb,eo,none⟩) ne ec)=>hK v W ⟨pv_upd hI.pv h,hI.st⟩)
      clear hK hI hn hcl hi
      go_simp
      exact HK.out _ rfl
     ·rw [if_pos (by simp [Region.wanted])]
      have HK:=Lib.hid (fun (v:Value) (h:v=.int .i64 (k:Int))=>hK v W ⟨pv_upd hI.pv h,hI.st⟩)
      clear hK hI hn hcl hi
      go_simp
      exact HK.out _ rfl
     ·have r3:vs 3=_:=hI.pv 3 (hn 3 rfl)
      have r4:vs 4=_:=hI.pv 4 (hn 4 rfl)
      rw [if_pos (by simp [Region.wanted])]
      simp only [r3,r4] at hK |-
      have HK:=Lib.hid (fun (v:Value) (h:v=.pointer (some ⟨eb,eo+k*5,none⟩))=>hK v W ⟨pv_upd hI.pv h,hI.st⟩)
      clear hK hI hn hcl hi
      go_simp
      exact HK.out _ rfl
     ·have r2:vs 2=_:=hI.pv 2 (hn 2 rfl)
      have r5:vs 5=_:=hI.pv 5 (hn 5 rfl)
      rw [if_pos (by simp [Region.wanted])]
      simp only [r2,r5] at hK |-
      have ha:L 7=false:=by
       cases h:L 7
       ·rfl
       ·exact absurd (hcl 7 _ rfl h 6 rfl) (Bool.eq_false_iff.1 hi)
      have hs:L 9=false:=by
       cases h:L 9
       ·rfl
       ·exact absurd (hcl 7 _ rfl (hcl 9 _ rfl h 7 rfl) 6 rfl) (Bool.eq_false_iff.1 hi)
      have HH:=Lib.hid (And.intro hi (And.intro ha hs))
      clear ha hs
      have HI:=Lib.hid hI.st
      have HP:=Lib.hid hI.pv
      have HK:=Lib.hid hK
      clear hK hI hn hcl hi
      go_simp
      refine (HI.out.run HH.out.1 HH.out.2.1 HH.out.2.2 (fun G1 k1 k2=>HCALL.out W G1 k1 k2)).mono ?_
      rintro e w5 ⟨v,rfl,h5⟩
      exact HK.out v w5 ⟨pv_upd HP.out trivial,h5⟩
     ·have r1:vs 1=_:=hI.pv 1 (hn 1 rfl)
      rw [if_pos (by simp [Region.wanted])]
      simp only [r1] at hK |-
      have hlc:=hn 6 rfl
      have hs:L 9=false:=by
       cases h:L 9
       ·rfl
       ·exact absurd (hcl 9 _ rfl h 7 rfl) (Bool.eq_false_iff.1 hi)
      obtain ⟨hr1,qa,qn,qc,hv,hr2⟩:=hI.st.parts hlc hi
      have hrp:=hI.pv 1 (hn 1 rfl)
      refine wp_onto_at (.tmp 45) (.tmp 50) 39 rfl wa.heap.size 45 _ 4 32 Tryz.underlying39 infoEvent rfl (by decide) (.slice ra rn rc) _ _ (by first | exact hrp | simp [Act.eval]) hr1 (.slice qa qn qc) (by simpa [Act.eval] using hv) _ _ (own_src hr2) (evCells_len _) (evCells_one _) (by have:=HLB.out;simp only [maxLen];omega) (by have:=HLB.out;omega) hI.st.size ?_
      intro v5 w5 hown hg5 hnb
      exact hK v5 w5 ⟨pv_upd hI.pv trivial,hI.st.app hlc hi hs HGG.out.1 hown hg5 hnb⟩
     ·rw [if_pos (by simp [Region.wanted])]
      have HK:=Lib.hid (fun (v:Value) (h:v=.pointer (some ⟨g,4,none⟩))=>hK v W ⟨pv_upd hI.pv h,hI.st⟩)
      clear hK hI hn hcl hi
      go_simp
      exact HK.out _ rfl
     ·have r8:vs 8=_:=hI.pv 8 (hn 8 rfl)
      rw [if_pos (by simp [Region.wanted])]
      simp only [r8] at hK |-
      obtain ⟨qa,qn,qc,hv⟩:=hI.st.shape (hn 7 rfl)
      have r5:=hI.pv 8 (hn 8 rfl)
      have hcell:=hI.st.cell hi
      have o4:=BlockIs.of hcell 4 (.slice ra rn rc) rfl
      have fz:=thaw hcell
      have h6:=hI.st.put (hn 7 rfl) HGG.out.1 HGG.out.2
      rw [show W.setCell ⟨g,4,none⟩ (vs 7)=W.setCell ⟨g,4,none⟩ (.slice qa qn qc) by rw [hv]] at h6
      have H6:=Lib.hid h6
      have HV:=Lib.hid hv
      simp only [hv] at hK |-
      have HP:=Lib.hid hI.pv
      have HK:=Lib.hid hK
      clear hK hI hn hcl hi hcell h6 hv
      go_simp
      exact HK.out undef _ ⟨pv_upd HP.out trivial,H6.out⟩
    ·intro vs W hI
     simp only [List.map,putAll,Act.put,List.setIfInBounds_toArray,List.set_cons_succ,List.set_cons_zero,Nat.reduceAdd]
     have hS:=hI.st
     have r0:vs 0=_:=hI.pv 0 (by simp)
     have r1:vs 1=_:=hI.pv 1 (by simp)
     have r2:vs 2=_:=hI.pv 2 (by simp)
     have r3:vs 3=_:=hI.pv 3 (by simp)
     have r4:vs 4=_:=hI.pv 4 (by simp)
     have r5:vs 5=_:=hI.pv 5 (by simp)
     have r8:vs 8=_:=hI.pv 8 (by simp)
     simp only [r0,r1,r2,r3,r4,r5,r8]
     clear hI r0 r1 r2 r3 r4 r5 r8
     obtain ⟨ra2,rn2,rc2,hva,hR⟩:=TkA.done (K1:=Kc) hS
     have HR2:=Lib.hid hR
     simp only [hva]
     clear hR hva
     go_wp2_with fail
     go_roundw
     case rel=>exact ⟨k+1,ra2,rn2,rc2,by omega,by go_num,Lib.hid (by rw [HTK.out];simp only;rw [<-List.append_assoc,<-HEV.out];exact HR2.out)⟩
     case measure=>simp [intOf];omega
   ·have hft:es.take k=es:=List.take_of_length_le (by have:=HNE.out;omega)
    rw [hft] at HR
    have hok0:=entersK_ok es (boundK_ok HOK.out)
    have hle1:=entersK_le es (boundK Ks).1
    have hle2:=boundK_le Ks
    have hnw0:(entersK (boundK Ks).1 es).1.now=Ks.now:=(entersK_now _ _).trans (boundK_now Ks)
    obtain ⟨Ke,hKe⟩:∃ Ke,Ke=(entersK (boundK Ks).1 es).1:=⟨_,rfl⟩
    obtain ⟨eve,heve⟩:∃ eve,eve=(boundK Ks).2 ++ (entersK (boundK Ks).1 es).2:=⟨_,rfl⟩
    have HLE:=Lib.hid (show eve.length<=5000 by rw [heve,List.length_append];have:=HNE.out;omega)
    rw [<-hKe] at HR hok0 hnw0
    rw [<-heve] at HR
    have HKE:=Lib.hid (And.intro hKe heve)
    have HNW:=Lib.hid hnw0
    have HOE:=Lib.hid hok0
    obtain ⟨G1,k1⟩:=HR.out.kern
    have kb14:=k1.cell 14 Y.sv rfl
    obtain ⟨sa,sc,hsv,-⟩:=k1.seats
    obtain ⟨n,hn⟩:∃ n,n=Ke.seats.length:=⟨_,rfl⟩
    rw [<-hn] at hsv
    rw [hsv] at kb14
    have hn8:n<=1000:=by have:=hok0.seats8;omega
    have HSV:=Lib.hid (And.intro hn hsv)
    have HR0:=HR
    clear hft hok0 hle1 hle2 hnw0 hKe heve k1 hsv hn HR hkn e2 e3
    go_wp2_with fail
    clear kb14
    go_loopw [9,59] (fun _ i wr=>∃ (k:Nat) (ra:Option Addr) (rn rc:Nat),k<=n/\i=.int .i64 k/\Hid (TkR Y (beginsK Ke k).1 G wa gr g Ks.now 0 false 0 (eve ++ (beginsK Ke k).2) ra rn rc wr)) (fun _ i _=>n - (intOf i).toNat)
    case atStart=>exact ⟨0,_,_,_,by omega,rfl,Lib.hid (by simpa [beginsK] using HR0.out)⟩
    case round =>
     clear HR0
     obtain ⟨k,ra,rn,rc,hkn,rfl,HR⟩:=hrel
     by_cases hlt2:k < n
     ·have hlk:(k:Int) < (n:Int):=by omega
      have hkl:k < Ke.seats.length:=by rw [<-HSV.out.1];exact hlt2
      have hokc:=beginsK_ok HOE.out k (by omega)
      have hsm:=(beginsK_same Ke k).1
      have hlb:=beginsK_le HOE.out k (by omega)
      have hst:beginsK Ke (k+1)=((beginsK Ke k).1.setSeat k { (beginsK Ke k).1.seat k with loc:=begS ((beginsK Ke k).1.seat k).loc Ks.now },(beginsK Ke k).2 ++ begE ((beginsK Ke k).1.seat k).loc Ks.now):=by rw [<-HNW.out];rfl
      obtain ⟨Kc,hKc⟩:∃ Kc,Kc=(beginsK Ke k).1:=⟨_,rfl⟩
      obtain ⟨evs,hevs⟩:∃ evs,evs=eve ++ (beginsK Ke k).2:=⟨_,rfl⟩
      obtain ⟨K2,hK2⟩:∃ K2,K2=Kc.setSeat k { Kc.seat k with loc:=begS (Kc.seat k).loc Ks.now }:=⟨_,rfl⟩
      obtain ⟨ev2,hev2⟩:∃ ev2,ev2=begE (Kc.seat k).loc Ks.now:=⟨_,rfl⟩
      have h8:=HOE.out.seats8
      rw [<-hKc] at hokc hsm HR hst
      rw [<-hevs] at HR
      have hlc:k < Kc.seats.length:=by rw [hsm.len];exact hkl
      have hle5:=begE_le (Kc.seat k).loc Ks.now (hokc.loc k hlc)
      rw [<-hev2] at hle5
      have HLB:Hid (evs.length+ev2.length<=10000):=Lib.hid (by rw [hevs,List.length_append];have:=HLE.out;omega)
      have HST:Hid (beginsK Ke (k+1)=(K2,(beginsK Ke k).2 ++ ev2)):=Lib.hid (by rw [hst,hK2,hev2])
      have HEV:=Lib.hid hevs
      have HCALL:Hid (∀ W G1,KAt W Y Kc G1->Calls Tryz.prog 44 #[.pointer (some ⟨Y.lb k,0,none⟩),.int .i64 Ks.now] W fun e W2=>∃ a n c,e=.returned (.tuple #[.slice a n c,.int .i64 0])/\∃ G2,KAt W2 Y K2 G2/\Moves G1 G2 W W2/\EvRow W2 W.heap.size (.slice a n c) ev2/\Off (.slice a n c) G2):=Lib.hid (fun W G1 q1=>by
       rw [hK2,hev2]
       exact k_begin Y Kc G1 k _ Ks.now W q1 hlc (hokc.loc k hlc) (by omega) HOK.out.clk)
      obtain ⟨G1,k1⟩:=HR.out.kern
      have y0:=k1.locPtr hlc
      have kb0:wr.cell? ⟨Y.kb,0,none⟩=some (.int .i64 Ks.now):=k1.cell 0 _ (by show some (vi Kc.now)=_;rw [hsm.now,HNW.out];rfl)
      obtain ⟨sa',sc',hsv2,hse⟩:=k1.seats
      obtain ⟨sb,hsb,yp⟩:=hse k hlc
      have hsa:sa=some ⟨sb,0,none⟩:=by
       have:=HSV.out.2
       rw [hsv2,hsb] at this
       injection this with this
       exact this.symm
      subst hsa
      unfold ptrV at yp
      clear hkl hokc hsm hlb hst hKc hevs hK2 hev2 h8 hle5 hlc k1 hsv2 hse hsb
      go_wp2_with fail
      refine region_inv0 rfl (by kernel_rfl) (QInv (T16V Y Ks k) 10 (fun W=>Below wr.heap.size wr W) (fun v W=>∃ qa qn qc,v=.tuple #[.slice qa qn qc,.int .i64 0]/\∀ va,TkA Y Kc K2 G wa gr g Ks.now 0 false 0 (.slice ra rn rc) evs ev2 true false false (.slice qa qn qc) va W) [11,12,13,14,15] (fun j x y=>(j=11->y=x)/\(j=12->y=tupAt 0 x)/\(j=13->y=tupAt 1 x)/\(j=14->y=tupAt 0 x)/\(j=15->y=tupAt 1 x)/\True)) (fun vs h0=>⟨(fun i h=>by cases h),(fun _=>below_drew (Below.refl _ _)),(fun h=>by cases h),(fun j _ h=>by cases h)⟩) ?_ ?_
      ·simp (config:={ maxSteps:=4000000 }) only [List.map,putAll,Act.put,InvE,List.setIfInBounds_toArray,List.set_cons_succ,List.set_cons_zero,Nat.reduceAdd]
       refine ⟨?_,?_,?_,?_,?_,?_,?_,?_,?_,?_,?_,?_,?_,?_,?_,?_,trivial⟩
       all_goals
        intro L vs W hI hi hn hcl K hK
        rw [if_pos (by simp [Region.wanted])]
       ·have HK:=Lib.hid (fun v h=>hK v W (hI.plain (v:=v) (i:=0) (by decide) (by decide) h))
        clear hK hI hn hcl hi
        go_simp
        exact HK.out _ rfl
       ·have r0:vs 0=_:=hI.pv 0 (hn 0 rfl)
        simp only [r0] at hK |-
        have HK:=Lib.hid (fun v h=>hK v W (hI.plain (v:=v) (i:=1) (by decide) (by decide) h))
        clear hK hI hn hcl hi
        go_simp
        exact HK.out _ rfl
       ·have r1:vs 1=_:=hI.pv 1 (hn 1 rfl)
        simp only [r1] at hK |-
        have HK:=Lib.hid (fun v h=>hK v W (hI.plain (v:=v) (i:=2) (by decide) (by decide) h))
        clear hK hI hn hcl hi
        go_simp
        exact HK.out _ rfl
       ·have r2:vs 2=_:=hI.pv 2 (hn 2 rfl)
        have hLn:L 10=false:=by
         cases h:L 10
         ·rfl
         ·exact absurd (hcl 10 _ rfl h 3 rfl) (Bool.eq_false_iff.1 hi)
        have HS:=Lib.hid (hI.s0 hLn)
        have b3_0:=Ext.below HS.out _ _ y0
        simp only [r2] at hK |-
        have HK:=Lib.hid (fun v h=>hK v W (hI.plain (v:=v) (i:=3) (by decide) (by decide) h))
        clear hK hI hn hcl hi hLn
        go_simp
        exact HK.out _ rfl
       ·have HK:=Lib.hid (fun v h=>hK v W (hI.plain (v:=v) (i:=4) (by decide) (by decide) h))
        clear hK hI hn hcl hi
        go_simp
        exact HK.out _ rfl
       ·have r4:vs 4=_:=hI.pv 4 (hn 4 rfl)
        simp only [r4] at hK |-
        have HK:=Lib.hid (fun v h=>hK v W (hI.plain (v:=v) (i:=5) (by decide) (by decide) h))
        clear hK hI hn hcl hi
        go_simp
        exact HK.out _ rfl
       ·have r5:vs 5=_:=hI.pv 5 (hn 5 rfl)
        simp only [r5] at hK |-
        have HK:=Lib.hid (fun v h=>hK v W (hI.plain (v:=v) (i:=6) (by decide) (by decide) h))
        clear hK hI hn hcl hi
        go_simp
        exact HK.out _ rfl
       ·have r6:vs 6=_:=hI.pv 6 (hn 6 rfl)
        simp only [r6] at hK |-
        have HK:=Lib.hid (fun v h=>hK v W (hI.plain (v:=v) (i:=7) (by decide) (by decide) h))
        clear hK hI hn hcl hi
        go_simp
        exact HK.out _ rfl
       ·have r7:vs 7=_:=hI.pv 7 (hn 7 rfl)
        simp only [r7] at hK |-
        have HK:=Lib.hid (fun v h=>hK v W (hI.plain (v:=v) (i:=8) (by decide) (by decide) h))
        clear hK hI hn hcl hi
        go_simp
        exact HK.out _ rfl
       ·have r8:vs 8=_:=hI.pv 8 (hn 8 rfl)
        have hLn:L 10=false:=by
         cases h:L 10
         ·rfl
         ·exact absurd (hcl 10 _ rfl h 9 rfl) (Bool.eq_false_iff.1 hi)
        have HS:=Lib.hid (hI.s0 hLn)
        have b9_0:=Ext.below HS.out _ _ kb0
        simp only [r8] at hK |-
        have HK:=Lib.hid (fun v h=>hK v W (hI.plain (v:=v) (i:=9) (by decide) (by decide) h))
        clear hK hI hn hcl hi hLn
        go_simp
        exact HK.out _ rfl
       ·have r3:vs 3=_:=hI.pv 3 (hn 3 rfl)
        have r9:vs 9=_:=hI.pv 9 (hn 9 rfl)
        simp only [r3,r9] at hK |-
        have HSW:=Lib.hid (hI.s0 hi)
        have HQ:=Lib.hid (fun v W2 (h:(fun v W=>∃ qa qn qc,v=.tuple #[.slice qa qn qc,.int .i64 0]/\∀ va,TkA Y Kc K2 G wa gr g Ks.now 0 false 0 (.slice ra rn rc) evs ev2 true false false (.slice qa qn qc) va W) v W2)=>hK v W2 (hI.call hi trivial (by decide) h))
        clear hK hI hn hcl hi
        go_simp
        refine (TkR.call (K2:=K2) (ev2:=ev2) (HR.out.below HSW.out) (fun a n c=>.tuple #[.slice a n c,.int .i64 0]) (fun G1 q1=>HCALL.out W G1 q1)).mono ?_
        rintro e w5 ⟨qa,qn,qc,rfl,ht⟩
        exact HQ.out _ w5 ⟨qa,qn,qc,rfl,ht⟩
       ·have hLn:L 10=true:=(hn 10 rfl)
        obtain ⟨qa,qn,qc,hsh,hrest⟩:=hI.s1 hLn
        have rs:vs 10=.tuple #[.slice qa qn qc,.int .i64 0]:=hsh
        simp only [rs] at hK |-
        have HQ:=Lib.hid (fun v (h:(fun j x y=>(j=11->y=x)/\(j=12->y=tupAt 0 x)/\(j=13->y=tupAt 1 x)/\(j=14->y=tupAt 0 x)/\(j=15->y=tupAt 1 x)/\True) 11 (vs 10) v)=>hK v W (hI.dep (by decide) trivial hLn h))
        have HSH:=Lib.hid hsh
        clear hK hI hn hcl hi hsh hrest rs hLn
        go_simp
        exact HQ.out _ (by rw [HSH.out];simp [tupAt])
       ·have hLn:L 10=true:=(hI.dv 11 (by decide) (hn 11 rfl)).1
        obtain ⟨qa,qn,qc,hsh,hrest⟩:=hI.s1 hLn
        have rd:=(hI.dv 11 (by decide) (hn 11 rfl)).2
        have rs:vs 11=.tuple #[.slice qa qn qc,.int .i64 0]:=by have:=rd;simp only [Nat.reduceEqDiff,false_implies,true_implies,true_and,and_true] at this;rw [this,hsh] <;> rfl
        simp only [rs] at hK |-
        have HQ:=Lib.hid (fun v (h:(fun j x y=>(j=11->y=x)/\(j=12->y=tupAt 0 x)/\(j=13->y=tupAt 1 x)/\(j=14->y=tupAt 0 x)/\(j=15->y=tupAt 1 x)/\True) 12 (vs 10) v)=>hK v W (hI.dep (by decide) trivial hLn h))
        have HSH:=Lib.hid hsh
        clear hK hI hn hcl hi hsh hrest rd rs hLn
        go_simp
        exact HQ.out _ (by rw [HSH.out];simp [tupAt])
       ·have hLn:L 10=true:=(hI.dv 11 (by decide) (hn 11 rfl)).1
        obtain ⟨qa,qn,qc,hsh,hrest⟩:=hI.s1 hLn
        have rd:=(hI.dv 11 (by decide) (hn 11 rfl)).2
        have rs:vs 11=.tuple #[.slice qa qn qc,.int .i64 0]:=by have:=rd;simp only [Nat.reduceEqDiff,false_implies,true_implies,true_and,and_true] at this;rw [this,hsh] <;> rfl
        simp only [rs] at hK |-
        have HQ:=Lib.hid (fun v (h:(fun j x y=>(j=11->y=x)/\(j=12->y=tupAt 0 x)/\(j=13->y=tupAt 1 x)/\(j=14->y=tupAt 0 x)/\(j=15->y=tupAt 1 x)/\True) 13 (vs 10) v)=>hK v W (hI.dep (by decide) trivial hLn h))
        have HSH:=Lib.hid hsh
        clear hK hI hn hcl hi hsh hrest rd rs hLn
        go_simp
        exact HQ.out _ (by rw [HSH.out];simp [tupAt])
       ·have hLn:L 10=true:=(hI.dv 12 (by decide) (hn 12 rfl)).1
        obtain ⟨qa,qn,qc,hsh,hrest⟩:=hI.s1 hLn
        have rd:=(hI.dv 12 (by decide) (hn 12 rfl)).2
        have rs:vs 12=.slice qa qn qc:=by have:=rd;simp only [Nat.reduceEqDiff,false_implies,true_implies,true_and,and_true] at this;rw [this,hsh] <;> rfl
        simp only [rs] at hK |-
        have HQ:=Lib.hid (fun v (h:(fun j x y=>(j=11->y=x)/\(j=12->y=tupAt 0 x)/\(j=13->y=tupAt 1 x)/\(j=14->y=tupAt 0 x)/\(j=15->y=tupAt 1 x)/\True) 14 (vs 10) v)=>hK v W (hI.dep (by decide) trivial hLn h))
        have HSH:=Lib.hid hsh
        clear hK hI hn hcl hi hsh hrest rd rs hLn
        go_simp
        exact HQ.out _ (by rw [HSH.out];simp [tupAt])
       ·have hLn:L 10=true:=(hI.dv 13 (by decide) (hn 13 rfl)).1
        obtain ⟨qa,qn,qc,hsh,hrest⟩:=hI.s1 hLn
        have rd:=(hI.dv 13 (by decide) (hn 13 rfl)).2
        have rs:vs 13=.int .i64 0:=by have:=rd;simp only [Nat.reduceEqDiff,false_implies,true_implies,true_and,and_true] at this;rw [this,hsh] <;> rfl
        simp only [rs] at hK |-
        have HQ:=Lib.hid (fun v (h:(fun j x y=>(j=11->y=x)/\(j=12->y=tupAt 0 x)/\(j=13->y=tupAt 1 x)/\(j=14->y=tupAt 0 x)/\(j=15->y=tupAt 1 x)/\True) 15 (vs 10) v)=>hK v W (hI.dep (by decide) trivial hLn h))
        have HSH:=Lib.hid hsh
        clear hK hI hn hcl hi hsh hrest rd rs hLn
        go_simp
        exact HQ.out _ (by rw [HSH.out];simp [tupAt])
      ·intro vs W hI
       simp only [List.map,putAll,Act.put,List.setIfInBounds_toArray,List.set_cons_succ,List.set_cons_zero,Nat.reduceAdd]
       obtain ⟨qa,qn,qc,hsh,hs1⟩:=hI.s1 (by simp)
       have r0:vs 0=_:=hI.pv 0 (by simp)
       have r1:vs 1=_:=hI.pv 1 (by simp)
       have r2:vs 2=_:=hI.pv 2 (by simp)
       have r3:vs 3=_:=hI.pv 3 (by simp)
       have r4:vs 4=_:=hI.pv 4 (by simp)
       have r5:vs 5=_:=hI.pv 5 (by simp)
       have r6:vs 6=_:=hI.pv 6 (by simp)
       have r7:vs 7=_:=hI.pv 7 (by simp)
       have r8:vs 8=_:=hI.pv 8 (by simp)
       have r9:vs 9=_:=hI.pv 9 (by simp)
       have r11:vs 11=.tuple #[.slice qa qn qc,.int .i64 0]:=by have:=(hI.dv 11 (by decide) (by simp)).2;simp only [Nat.reduceEqDiff,false_implies,true_implies,true_and,and_true] at this;rw [this,hsh] <;> rfl
       have r12:vs 12=.slice qa qn qc:=by have:=(hI.dv 12 (by decide) (by simp)).2;simp only [Nat.reduceEqDiff,false_implies,true_implies,true_and,and_true] at this;rw [this,hsh] <;> rfl
       have r13:vs 13=.int .i64 0:=by have:=(hI.dv 13 (by decide) (by simp)).2;simp only [Nat.reduceEqDiff,false_implies,true_implies,true_and,and_true] at this;rw [this,hsh] <;> rfl
       have r14:vs 14=.slice qa qn qc:=by have:=(hI.dv 14 (by decide) (by simp)).2;simp only [Nat.reduceEqDiff,false_implies,true_implies,true_and,and_true] at this;rw [this,hsh] <;> rfl
       have r15:vs 15=.int .i64 0:=by have:=(hI.dv 15 (by decide) (by simp)).2;simp only [Nat.reduceEqDiff,false_implies,true_implies,true_and,and_true] at this;rw [this,hsh] <;> rfl
       simp only [hsh,r0,r1,r2,r3,r4,r5,r6,r7,r8,r9,r11,r12,r13,r14,r15]
       clear hI hsh r0 r1 r2 r3 r4 r5 r6 r7 r8 r9 r11 r12 r13 r14 r15
       have HT:=Lib.hid hs1
       have hcl0:=(hs1 undef).cell rfl
       have c4:=BlockIs.of hcl0 4 (.slice ra rn rc) rfl
       have hpt:=(hs1 undef).parts rfl rfl
       have HRW:=Lib.hid hpt.1
       have HQW:Hid (EvRow W wa.heap.size (.slice qa qn qc) ev2):=Lib.hid (by
        obtain ⟨a,n,c,e,h⟩:=hpt.2
        injection e with e1 e2 e3
        rw [e1,e2,e3]
        exact h)
       have HSRC:=Lib.hid (own_src HQW.out)
       have HSZ:=Lib.hid (hs1 undef).size
       clear hs1 hcl0 hpt
       go_wp2_with (at_builtin;refine wpList_onto_at rfl (.tmp 78) (.tmp 79) 39 rfl wa.heap.size 45 _ 4 32 Tryz.underlying39 infoEvent rfl (by decide) (.slice ra rn rc) _ _ rfl HRW.out (.slice qa qn qc) rfl _ _ HSRC.out (evCells_len _) (evCells_one _) (by have:=HLB.out;simp only [maxLen];omega) (by have:=HLB.out;omega) HSZ.out ?_)
       intro v5 w5 hown hg5 hnb
       have ht5:=(HT.out undef).app rfl rfl rfl HGG.out.1 hown hg5 hnb
       obtain ⟨xa,xn,xc,rfl⟩:=ht5.shape rfl
       have hcell:=ht5.cell rfl
       have o4:=BlockIs.of hcell 4 (.slice ra rn rc) rfl
       have fz:=thaw hcell
       obtain ⟨ra2,rn2,rc2,hva,hR⟩:=TkA.done (K1:=Kc) (ht5.put rfl HGG.out.1 HGG.out.2)
       injection hva with q1 q2 q3
       subst q1 q2 q3
       have HR6:=Lib.hid hR
       obtain ⟨w6,hw6⟩:∃ w6,w6=w5.setCell ⟨g,4,none⟩ (.slice xa xn xc):=⟨_,rfl⟩
       rw [<-hw6] at HR6
       clear hown hg5 hnb ht5 hcell hR c4
       go_wp2_with (first | (rw [<-hw6];clear hw6 o4 fz) | fail)
       go_roundw
       case rel=>exact ⟨k+1,xa,xn,xc,by omega,by go_num,Lib.hid (by rw [HST.out];simp only;rw [<-List.append_assoc,<-HEV.out];exact HR6.out)⟩
       case measure=>simp [intOf];omega
     ·have hkn3:k=Ke.seats.length:=by have:=HSV.out.1;omega
      rw [hkn3] at HR
      have hokb:=beginsK_ok HOE.out Ke.seats.length (Nat.le_refl _)
      have hlb:=beginsK_le HOE.out Ke.seats.length (Nat.le_refl _)
      have hsm:=(beginsK_same Ke Ke.seats.length).1
      have h8:=HOE.out.seats8
      obtain ⟨Kb,hKb⟩:∃ Kb,Kb=(beginsK Ke Ke.seats.length).1:=⟨_,rfl⟩
      obtain ⟨evb,hevb⟩:∃ evb,evb=eve ++ (beginsK Ke Ke.seats.length).2:=⟨_,rfl⟩
      rw [<-hKb] at HR hokb hsm
      rw [<-hevb] at HR
      have hol:=ownerK_lt hokb
      have hos:=ownerK_same Kb
      have hoo:=ownerK_ok hokb
      obtain ⟨⟨Ko,ow,dl⟩,hRo⟩:∃ R,R=ownerK Kb:=⟨_,rfl⟩
      rw [<-hRo] at hol hos hoo
      simp only at hol hos hoo
      have HLB2:=Lib.hid (show evb.length<=9000 by rw [hevb,List.length_append];have:=HLE.out;omega)
      have HTK:Hid (tickK Ks es=((({ (if 0<=ow then stepK Ko ow.toNat else (Ko,[])).1 with now:=Ks.now+1 }:KSt)),⟨Ks.now,ow,dl,(if 0<=ow then stepK Ko ow.toNat else (Ko,[])).1.mode.level,evb ++ (if 0<=ow then stepK Ko ow.toNat else (Ko,[])).2⟩)):=Lib.hid (by
       obtain ⟨A,B,O,D,hA,hB,hO,hD,hT⟩:=tickK_go (K:=Ks) (es:=es) (by unfold tickE;rw [if_neg (by simpa using e0),if_neg (by have:=HNE.out;omega)])
       have hAe:A=(Ke,(entersK (boundK Ks).1 es).2):=by rw [hA,HKE.out.1]
       have hBe:B=(Kb,(beginsK Ke Ke.seats.length).2):=by rw [hB,hAe,hKb]
       have hOe:O=(Ko,ow,dl):=by rw [hO,hBe,hRo]
       rw [hOe] at hT hD
       simp only at hT hD
       rw [hT,<-hD,hAe,hBe,hevb,HKE.out.2])
      have HOW:=Lib.hid (show ow < Ko.seats.length by rw [hos.1];exact hol)
      have HOO:=Lib.hid hoo
      have HNO:=Lib.hid (show Ko.now=Ks.now by rw [hos.2.2.1,hsm.now,HNW.out])
      have HCO:Hid (∀ W G1,KAt W Y Kb G1->Calls Tryz.prog 45 #[.pointer (some ⟨Y.kb,0,none⟩)] W fun e W2=>e=.returned (.tuple #[.int .i64 ow,.bool dl])/\∃ G2,KAt W2 Y Ko G2/\Moves G1 G2 W W2):=Lib.hid (fun W G1 q1=>by
       have:=kowner_any Y Kb G1 _ W q1 hokb
       rw [<-hRo] at this
       exact this)
      clear hkn3 hokb hlb hsm h8 hKb hevb hol hos hoo hRo
      go_wp2_with fail
      refine (HR.out.act (K2:=Ko) (fun G1 q1=>HCO.out _ G1 q1)).mono ?_
      rintro e w2 ⟨rfl,hR2⟩
      have hc2:=hR2.cells.1
      have o1:=BlockIs.of hc2 1 (.int .i64 0) rfl
      have o2:=BlockIs.of hc2 2 (.bool false) rfl
      have fz:=thaw hc2
      have hR3:=(hR2.cellPut HGG.out.1 HGG.out.2 (j:=1) (u:=.int .i64 ow) (t':=Ks.now) (o':=ow) (d':=false) (md':=0) (by rfl)).cellPut HGG.out.1 HGG.out.2 (j:=2) (u:=.bool dl) (t':=Ks.now) (o':=ow) (d':=dl) (md':=0) (by rfl)
      obtain ⟨w3,hw3⟩:∃ w3,w3=(w2.setCell ⟨g,1,none⟩ (.int .i64 ow)).setCell ⟨g,2,none⟩ (.bool dl):=⟨_,rfl⟩
      rw [<-hw3] at hR3
      have HR3:=Lib.hid hR3
      have b1:=BlockIs.of hR3.cells.1 1 (.int .i64 ow) rfl
      clear hR2 hc2 hR3 HR
      by_cases how:0<=ow
      ·obtain ⟨j,rfl⟩:∃ j:Nat,ow=j:=⟨ow.toNat,by omega⟩
       have dw:decide ((j:Int) >= 0)=true:=decide_eq_true (by omega)
       have hjl:j < Ko.seats.length:=by have:=HOW.out;omega
       have HTS:=Lib.hid (HTK.out.trans (by rw [if_pos how,Int.toNat_natCast]))
       have hle6:=stepK_le Ko j
       have hno:(stepK Ko j).1.now=Ks.now:=by rw [(stepK_same Ko j).1.now,HNO.out]
       have HLB:Hid (evb.length+(stepK Ko j).2.length<=10000):=Lib.hid (by have:=HLB2.out;omega)
       have HS0:=Lib.hid (fun a b=>HR3.out.begin (K2:=(stepK Ko j).1) (ev2:=(stepK Ko j).2) a b)
       have HNOW:=Lib.hid hno
       have HCALL:Hid (∀ W G1,KAt W Y Ko G1->Moves G G1 wa W->Calls Tryz.prog 46 #[.pointer (some ⟨Y.kb,0,none⟩),.int .i64 (j:Int)] W fun e W2=>∃ a n c,e=.returned (.slice a n c)/\∃ G2,KAt W2 Y (stepK Ko j).1 G2/\Moves G1 G2 W W2/\EvRow W2 W.heap.size (.slice a n c) (stepK Ko j).2/\Off (.slice a n c) G2):=Lib.hid (fun W G1 q1 _=>kstep_any Y Ko G1 _ W q1 HOO.out j hjl)
       obtain ⟨Kd,hKd⟩:∃ Kd,Kd=(stepK Ko j).1:=⟨_,rfl⟩
       obtain ⟨evd,hevd⟩:∃ evd,evd=(stepK Ko j).2:=⟨_,rfl⟩
       have HTS2:Hid (tickK Ks es=(({ Kd with now:=Ks.now+1 }:KSt),⟨Ks.now,(j:Int),dl,Kd.mode.level,evb ++ evd⟩)):=Lib.hid (by rw [hKd,hevd];exact HTS.out)
       rw [<-hKd,<-hevd] at HS0 HCALL
       rw [<-hKd] at HNOW
       rw [<-hevd] at HLB
       clear how hjl hle6 hno hKd hevd HTS HTK
       go_wp2_with (first | (rw [<-hw3];clear hw3 o1 o2 fz) | fail)
       clear b1
       refine region_inv0 rfl (by kernel_rfl) (WInv2 (T21V Y g j ra rn rc) (fun L vs W=>TkA Y Ko Kd G wa gr g Ks.now (j:Int) dl 0 (.slice ra rn rc) evb evd (L 5) (L 6) (L 8) (vs 5) (vs 6) W)) (fun vs h0=>⟨(fun i h=>by cases h),HS0.out _ _⟩) ?_ ?_
       ·simp (config:={ maxSteps:=4000000 }) only [List.map,putAll,Act.put,InvE,List.setIfInBounds_toArray,List.set_cons_succ,List.set_cons_zero,Nat.reduceAdd]
        refine ⟨?_,?_,?_,?_,?_,?_,?_,?_,?_,trivial⟩
        all_goals intro L vs W hI hi hn hcl K hK
        ·rw [if_pos (by simp [Region.wanted])]
         have HK:=Lib.hid (fun (v:Value) (h:v=.pointer (some ⟨g,4,none⟩))=>hK v W ⟨pv_upd hI.pv h,hI.st⟩)
         clear hK hI hn hcl hi
         go_simp
         exact HK.out _ rfl
        ·have r0:vs 0=_:=hI.pv 0 (hn 0 rfl)
         rw [if_pos (by simp [Region.wanted])]
         have hS:=hI.st
         have hs:L 8=false:=by
          cases h:L 8
          ·rfl
          ·exact absurd (hcl 6 _ rfl (hcl 8 _ rfl h 6 rfl) 1 rfl) (Bool.eq_false_iff.1 hi)
         have b4:=BlockIs.of (hI.st.cell hs) 4 (.slice ra rn rc) rfl
         simp only [r0] at hK |-
         have HK:=Lib.hid (fun (v:Value) (h:v=.slice ra rn rc)=>hK v W ⟨pv_upd hI.pv h,hI.st⟩)
         clear hK hI hn hcl hi
         go_simp
         exact HK.out _ rfl
        ·rw [if_pos (by simp [Region.wanted])]
         have HK:=Lib.hid (fun (v:Value) (h:v=.pointer (some ⟨Y.kb,0,none⟩))=>hK v W ⟨pv_upd hI.pv h,hI.st⟩)
         clear hK hI hn hcl hi
         go_simp
         exact HK.out _ rfl
        ·rw [if_pos (by simp [Region.wanted])]
         have HK:=Lib.hid (fun (v:Value) (h:v=.pointer (some ⟨g,1,none⟩))=>hK v W ⟨pv_upd hI.pv h,hI.st⟩)
         clear hK hI hn hcl hi
         go_simp
         exact HK.out _ rfl
        ·have r3:vs 3=_:=hI.pv 3 (hn 3 rfl)
         rw [if_pos (by simp [Region.wanted])]
         have hS:=hI.st
         have hs:L 8=false:=by
          cases h:L 8
          ·rfl
          ·exact absurd (hcl 5 _ rfl (hcl 6 _ rfl (hcl 8 _ rfl h 6 rfl) 5 rfl) 4 rfl) (Bool.eq_false_iff.1 hi)
         have b1:=BlockIs.of (hI.st.cell hs) 1 (.int .i64 (j:Int)) rfl
         simp only [r3] at hK |-
         have HK:=Lib.hid (fun (v:Value) (h:v=.int .i64 (j:Int))=>hK v W ⟨pv_upd hI.pv h,hI.st⟩)
         clear hK hI hn hcl hi
         go_simp
         exact HK.out _ rfl
        ·have r2:vs 2=_:=hI.pv 2 (hn 2 rfl)
         have r4:vs 4=_:=hI.pv 4 (hn 4 rfl)
         rw [if_pos (by simp [Region.wanted])]
         simp only [r2,r4] at hK |-
         have ha:L 6=false:=by
          cases h:L 6
          ·rfl
          ·exact absurd (hcl 6 _ rfl h 5 rfl) (Bool.eq_false_iff.1 hi)
         have hs:L 8=false:=by
          cases h:L 8
          ·rfl
          ·exact absurd (hcl 6 _ rfl (hcl 8 _ rfl h 6 rfl) 5 rfl) (Bool.eq_false_iff.1 hi)
         have HH:=Lib.hid (And.intro hi (And.intro ha hs))
         clear ha hs
         have HI:=Lib.hid hI.st
         have HP:=Lib.hid hI.pv
         have HK:=Lib.hid hK
         clear hK hI hn hcl hi
         go_simp
         refine (HI.out.run HH.out.1 HH.out.2.1 HH.out.2.2 (fun G1 k1 k2=>HCALL.out W G1 k1 k2)).mono ?_
         rintro e w5 ⟨v,rfl,h5⟩
         exact HK.out v w5 ⟨pv_upd HP.out trivial,h5⟩
        ·have r1:vs 1=_:=hI.pv 1 (hn 1 rfl)
         rw [if_pos (by simp [Region.wanted])]
         simp only [r1] at hK |-
         have hlc:=hn 5 rfl
         have hs:L 8=false:=by
          cases h:L 8
          ·rfl
          ·exact absurd (hcl 8 _ rfl h 6 rfl) (Bool.eq_false_iff.1 hi)
         obtain ⟨hr1,qa,qn,qc,hv,hr2⟩:=hI.st.parts hlc hi
         have hrp:=hI.pv 1 (hn 1 rfl)
         refine wp_onto_at (.tmp 94) (.tmp 98) 39 rfl wa.heap.size 45 _ 4 32 Tryz.underlying39 infoEvent rfl (by decide) (.slice ra rn rc) _ _ (by first | exact hrp | simp [Act.eval]) hr1 (.slice qa qn qc) (by simpa [Act.eval] using hv) _ _ (own_src hr2) (evCells_len _) (evCells_one _) (by have:=HLB.out;simp only [maxLen];omega) (by have:=HLB.out;omega) hI.st.size ?_
         intro v5 w5 hown hg5 hnb
         exact hK v5 w5 ⟨pv_upd hI.pv trivial,hI.st.app hlc hi hs HGG.out.1 hown hg5 hnb⟩
        ·rw [if_pos (by simp [Region.wanted])]
         have HK:=Lib.hid (fun (v:Value) (h:v=.pointer (some ⟨g,4,none⟩))=>hK v W ⟨pv_upd hI.pv h,hI.st⟩)
         clear hK hI hn hcl hi
         go_simp
         exact HK.out _ rfl
        ·have r7:vs 7=_:=hI.pv 7 (hn 7 rfl)
         rw [if_pos (by simp [Region.wanted])]
         simp only [r7] at hK |-
         obtain ⟨qa,qn,qc,hv⟩:=hI.st.shape (hn 6 rfl)
         have r5:=hI.pv 7 (hn 7 rfl)
         have hcell:=hI.st.cell hi
         have o4:=BlockIs.of hcell 4 (.slice ra rn rc) rfl
         have fz:=thaw hcell
         have h6:=hI.st.put (hn 6 rfl) HGG.out.1 HGG.out.2
         rw [show W.setCell ⟨g,4,none⟩ (vs 6)=W.setCell ⟨g,4,none⟩ (.slice qa qn qc) by rw [hv]] at h6
         have H6:=Lib.hid h6
         have HV:=Lib.hid hv
         simp only [hv] at hK |-
         have HP:=Lib.hid hI.pv
         have HK:=Lib.hid hK
         clear hK hI hn hcl hi hcell h6 hv
         go_simp
         exact HK.out undef _ ⟨pv_upd HP.out trivial,H6.out⟩
       ·intro vs W hI
        simp only [List.map,putAll,Act.put,List.setIfInBounds_toArray,List.set_cons_succ,List.set_cons_zero,Nat.reduceAdd]
        have hS:=hI.st
        have r0:vs 0=_:=hI.pv 0 (by simp)
        have r1:vs 1=_:=hI.pv 1 (by simp)
        have r2:vs 2=_:=hI.pv 2 (by simp)
        have r3:vs 3=_:=hI.pv 3 (by simp)
        have r4:vs 4=_:=hI.pv 4 (by simp)
        have r7:vs 7=_:=hI.pv 7 (by simp)
        simp only [r0,r1,r2,r3,r4,r7]
        clear hI r0 r1 r2 r3 r4 r7
        obtain ⟨ra2,rn2,rc2,hva,hR⟩:=TkA.done (K1:=Ko) hS
        have HR4:=Lib.hid hR
        simp only [hva]
        clear hR hva
        obtain ⟨G5,k5⟩:=HR4.out.kern
        have kb6:=k5.cell 6 (.int .i64 Kd.mode.level) rfl
        have kb0:W.cell? ⟨Y.kb,0,none⟩=some (.int .i64 Ks.now):=k5.cell 0 _ (by show some (vi Kd.now)=_;rw [HNOW.out];rfl)
        have c3:=BlockIs.of HR4.out.cells.1 3 (.int .i64 0) rfl
        have f3:=thaw HR4.out.cells.1
        obtain ⟨ml,hml⟩:∃ ml,ml=Kd.mode.level:=⟨_,rfl⟩
        rw [<-hml] at kb6
        have hR5:=HR4.out.cellPut HGG.out.1 HGG.out.2 (j:=3) (u:=.int .i64 ml) (t':=Ks.now) (o':=(j:Int)) (d':=dl) (md':=ml) (by rfl)
        obtain ⟨w5,hw5⟩:∃ w5,w5=W.setCell ⟨g,3,none⟩ (.int .i64 ml):=⟨_,rfl⟩
        rw [<-hw5] at hR5
        obtain ⟨G6,k6⟩:=hR5.kern
        have kc0:w5.cell? ⟨Y.kb,0,none⟩=some (.int .i64 Ks.now):=k6.cell 0 _ (by show some (vi Kd.now)=_;rw [HNOW.out];rfl)
        have f6:=thaw k6.kern.1
        have hnx:IntKind.i64.wrap (Ks.now+1)=Ks.now+1:=by have:=HOK.out.now;rw [IntKind.wrap_i64];omega
        have hkbg:Y.kb≠g/\Y.kb≠gr:=by
         obtain ⟨G7,q1,q2,q3,q4,-⟩:=hR5
         exact ⟨fun e=>q3 (e ▸ q1.kern.2),fun e=>q4 (e ▸ q1.kern.2)⟩
        obtain ⟨w6,hw6⟩:∃ w6,w6=w5.setCell ⟨Y.kb,0,none⟩ (.int .i64 (Ks.now+1)):=⟨_,rfl⟩
        have hgg6:w6.heap[g]?=some (.cells (rowC Ks.now (j:Int) dl ml (.slice ra2 rn2 rc2)) 41 (0,0)):=by rw [hw6];exact set_at (q:=Y.kb) (j:=0) _ hR5.cells.1 (fun e=>hkbg.1 e.symm)
        have hgr6:w6.heap[gr]?=some (.cells (rowC 0 0 false 0 (.slice none 0 0)) 41 (0,0)):=by rw [hw6];exact set_at (q:=Y.kb) (j:=0) _ hR5.cells.2.1 (fun e=>hkbg.2 e.symm)
        have d0:=BlockIs.of hgg6 0 (.int .i64 Ks.now) rfl
        have d1:=BlockIs.of hgg6 1 (.int .i64 (j:Int)) rfl
        have d2:=BlockIs.of hgg6 2 (.bool dl) rfl
        have d3:=BlockIs.of hgg6 3 (.int .i64 ml) rfl
        have d4:=BlockIs.of hgg6 4 (.slice ra2 rn2 rc2) rfl
        have HGR6:=Lib.hid hgr6
        obtain ⟨w7,hw7⟩:∃ w7,w7=w6.setRow gr (rowC Ks.now (j:Int) dl ml (.slice ra2 rn2 rc2)):=⟨_,rfl⟩
        have hgr7:w7.heap[gr]?=some (.cells (rowC Ks.now (j:Int) dl ml (.slice ra2 rn2 rc2)) 41 (0,0)):=by rw [hw7];exact setRow_heap _ _ _ _ _ _ hgr6
        have HF:=Lib.hid (hR5.fin HBW.out HLR.out.1 (Ks.now+1) (cs:=rowC Ks.now (j:Int) dl ml (.slice ra2 rn2 rc2)) (W':=w7) (by rw [hw7,hw6]))
        have x0:=BlockIs.of hgr7 0 (.int .i64 Ks.now) rfl
        have x1:=BlockIs.of hgr7 1 (.int .i64 (j:Int)) rfl
        have x2:=BlockIs.of hgr7 2 (.bool dl) rfl
        have x3:=BlockIs.of hgr7 3 (.int .i64 ml) rfl
        have x4:=BlockIs.of hgr7 4 (.slice ra2 rn2 rc2) rfl
        have HML:=Lib.hid hml
        clear k5 hR5 k6 hkbg hgg6 hgr6 hgr7 hml
        go_wp2_with (first | (rw [<-hw5];clear hw5 c3 f3 kb6 kb0) | (rw [<-hw6];clear hw6 kc0 f6) | (refine wpList_store_row rfl 41 _ _ rfl gr (rowC Ks.now (j:Int) dl ml (.slice ra2 rn2 rc2)) rfl rfl _ _ HGR6.out (by kernel_rfl) rfl (by simp [rowC,Value.oneCell']) ?_;rw [<-hw7];clear hw7) | fail)
        refine bodyPost_ret (v:=.tuple #[.agg (rowC Ks.now (j:Int) dl ml (.slice ra2 rn2 rc2)),.int .i64 0]) (by simp [results,Tryz.results18,go_sem,x0,x1,x2,x3,x4,rowC]) rfl ?_
        obtain ⟨G8,g1,g2,g3,g4⟩:=HF.out
        rw [HTS2.out]
        exact ⟨ra2,rn2,rc2,by rw [HML.out],G8,g1,g2,g3,g4⟩
      ·have dw:decide (ow >= 0)=false:=decide_eq_false (by omega)
       have HTS2:Hid (tickK Ks es=(({ Ko with now:=Ks.now+1 }:KSt),⟨Ks.now,ow,dl,Ko.mode.level,evb⟩)):=Lib.hid (HTK.out.trans (by rw [if_neg how,List.append_nil]))
       have HNOW:=HNO
       have HR4:=HR3
       obtain ⟨Kd,hKd⟩:∃ Kd,Kd=Ko:=⟨_,rfl⟩
       obtain ⟨ra2,rn2,rc2,hra⟩:∃ ra2 rn2 rc2,ra2=ra/\rn2=rn/\rc2=rc:=⟨_,_,_,rfl,rfl,rfl⟩
       obtain ⟨hra1,hra2,hra3⟩:=hra
       subst hra1 hra2 hra3
       subst hKd
       obtain ⟨W,hWW⟩:∃ W,W=w3:=⟨_,rfl⟩
       subst hWW
       clear how HTK
       obtain ⟨G5,k5⟩:=HR4.out.kern
       have kb6:=k5.cell 6 (.int .i64 Kd.mode.level) rfl
       have kb0:W.cell? ⟨Y.kb,0,none⟩=some (.int .i64 Ks.now):=k5.cell 0 _ (by show some (vi Kd.now)=_;rw [HNOW.out];rfl)
       have c3:=BlockIs.of HR4.out.cells.1 3 (.int .i64 0) rfl
       have f3:=thaw HR4.out.cells.1
       obtain ⟨ml,hml⟩:∃ ml,ml=Kd.mode.level:=⟨_,rfl⟩
       rw [<-hml] at kb6
       have hR5:=HR4.out.cellPut HGG.out.1 HGG.out.2 (j:=3) (u:=.int .i64 ml) (t':=Ks.now) (o':=ow) (d':=dl) (md':=ml) (by rfl)
       obtain ⟨w5,hw5⟩:∃ w5,w5=W.setCell ⟨g,3,none⟩ (.int .i64 ml):=⟨_,rfl⟩
       rw [<-hw5] at hR5
       obtain ⟨G6,k6⟩:=hR5.kern
       have kc0:w5.cell? ⟨Y.kb,0,none⟩=some (.int .i64 Ks.now):=k6.cell 0 _ (by show some (vi Kd.now)=_;rw [HNOW.out];rfl)
       have f6:=thaw k6.kern.1
       have hnx:IntKind.i64.wrap (Ks.now+1)=Ks.now+1:=by have:=HOK.out.now;rw [IntKind.wrap_i64];omega
       have hkbg:Y.kb≠g/\Y.kb≠gr:=by
        obtain ⟨G7,q1,q2,q3,q4,-⟩:=hR5
        exact ⟨fun e=>q3 (e ▸ q1.kern.2),fun e=>q4 (e ▸ q1.kern.2)⟩
       obtain ⟨w6,hw6⟩:∃ w6,w6=w5.setCell ⟨Y.kb,0,none⟩ (.int .i64 (Ks.now+1)):=⟨_,rfl⟩
       have hgg6:w6.heap[g]?=some (.cells (rowC Ks.now ow dl ml (.slice ra2 rn2 rc2)) 41 (0,0)):=by rw [hw6];exact set_at (q:=Y.kb) (j:=0) _ hR5.cells.1 (fun e=>hkbg.1 e.symm)
       have hgr6:w6.heap[gr]?=some (.cells (rowC 0 0 false 0 (.slice none 0 0)) 41 (0,0)):=by rw [hw6];exact set_at (q:=Y.kb) (j:=0) _ hR5.cells.2.1 (fun e=>hkbg.2 e.symm)
       have d0:=BlockIs.of hgg6 0 (.int .i64 Ks.now) rfl
       have d1:=BlockIs.of hgg6 1 (.int .i64 ow) rfl
       have d2:=BlockIs.of hgg6 2 (.bool dl) rfl
       have d3:=BlockIs.of hgg6 3 (.int .i64 ml) rfl
       have d4:=BlockIs.of hgg6 4 (.slice ra2 rn2 rc2) rfl
       have HGR6:=Lib.hid hgr6
       obtain ⟨w7,hw7⟩:∃ w7,w7=w6.setRow gr (rowC Ks.now ow dl ml (.slice ra2 rn2 rc2)):=⟨_,rfl⟩
       have hgr7:w7.heap[gr]?=some (.cells (rowC Ks.now ow dl ml (.slice ra2 rn2 rc2)) 41 (0,0)):=by rw [hw7];exact setRow_heap _ _ _ _ _ _ hgr6
       have HF:=Lib.hid (hR5.fin HBW.out HLR.out.1 (Ks.now+1) (cs:=rowC Ks.now ow dl ml (.slice ra2 rn2 rc2)) (W':=w7) (by rw [hw7,hw6]))
       have x0:=BlockIs.of hgr7 0 (.int .i64 Ks.now) rfl
       have x1:=BlockIs.of hgr7 1 (.int .i64 ow) rfl
       have x2:=BlockIs.of hgr7 2 (.bool dl) rfl
       have x3:=BlockIs.of hgr7 3 (.int .i64 ml) rfl
       have x4:=BlockIs.of hgr7 4 (.slice ra2 rn2 rc2) rfl
       have HML:=Lib.hid hml
       clear k5 hR5 k6 hkbg hgg6 hgr6 hgr7 hml
       go_wp2_with (first | (rw [<-hw3];clear hw3 o1 o2 fz) | (rw [<-hw5];clear hw5 c3 f3 kb6 kb0) | (rw [<-hw6];clear hw6 kc0 f6) | (refine wpList_store_row rfl 41 _ _ rfl gr (rowC Ks.now ow dl ml (.slice ra2 rn2 rc2)) rfl rfl _ _ HGR6.out (by kernel_rfl) rfl (by simp [rowC,Value.oneCell']) ?_;rw [<-hw7];clear hw7) | fail)
       refine bodyPost_ret (v:=.tuple #[.agg (rowC Ks.now ow dl ml (.slice ra2 rn2 rc2)),.int .i64 0]) (by simp [results,Tryz.results18,go_sem,x0,x1,x2,x3,x4,rowC]) rfl ?_
       obtain ⟨G8,g1,g2,g3,g4⟩:=HF.out
       rw [HTS2.out]
       exact ⟨ra2,rn2,rc2,by rw [HML.out],G8,g1,g2,g3,g4⟩
end Go.Proofs.YtooeeiiiflfckaaGreat
/- package kernel: Tick, whatever comes. -/
namespace Go.Proofs.YtooeeiiiflfckaaGreat
open Go.RowKit
def OffA (v:Value) (G:Nat->Prop):Prop:=∀ a n c,v=.slice (some a) n c->¬ G a.block
def krowV (r:KRow) (v:Value):Value:=.agg #[.int .i64 r.tick,.int .i64 r.owner,.bool r.dealt,.int .i64 r.mode,v]
set_option maxRecDepth 100000 in
set_option maxHeartbeats 4000000 in
theorem ktick_no (Y:KLay) (Ks:KSt) (G:Nat->Prop) (w:World) (h:KAt w Y Ks G) (ea:Option Addr) (ne ec:Nat) (hb:ne<=1000000000000000000) (E:Int) (hE:E=(if Ks.now=1099511627776 then 2201 else if 512 < ne then 2200 else 0)) (h0:E≠0) :
  Calls Tryz.prog 18 #[.pointer (some ⟨Y.kb,0,none⟩),.slice ea ne ec] w fun e w'=>e=.returned (.tuple #[krowV ⟨0,0,false,0,[]⟩ (.slice none 0 0),.int .i64 E])/\Below w.heap.size w w':=by
 obtain ⟨wa,gr,hw_wa,hg_gr,hb_wa,hk_gr,hs_wa⟩:=alloc_all w (.cells #[.int .i64 0,.int .i64 0,.bool false,.int .i64 0,.slice none 0 0] 41)
 have kb0:=(h.below hb_wa).cell 0 (.int .i64 Ks.now) rfl
 obtain ⟨wz,hw_wz⟩:∃ wz,wz=put5 wa gr (.int .i64 0) (.int .i64 0) (.bool false) (.int .i64 0) (.slice none 0 0):=⟨_,rfl⟩
 have hk_wz:=put5_at hk_gr (.int .i64 0) (.int .i64 0) (.bool false) (.int .i64 0) (.slice none 0 0)
 have hg_wz:=put5_grown wa gr (.int .i64 0) (.int .i64 0) (.bool false) (.int .i64 0) (.slice none 0 0)
 rw [<-hw_wz] at hk_wz hg_wz
 unfold put5 at hw_wz
 have o_wz_0:=BlockIs.of hk_gr 0 _ rfl
 have o_wz_1:=BlockIs.of hk_gr 1 _ rfl
 have o_wz_2:=BlockIs.of hk_gr 2 _ rfl
 have o_wz_3:=BlockIs.of hk_gr 3 _ rfl
 have o_wz_4:=BlockIs.of hk_gr 4 _ rfl
 have f_wz:=thaw hk_gr
 have e_wz_0:=BlockIs.of hk_wz 0 _ rfl
 have e_wz_1:=BlockIs.of hk_wz 1 _ rfl
 have e_wz_2:=BlockIs.of hk_wz 2 _ rfl
 have e_wz_3:=BlockIs.of hk_wz 3 _ rfl
 have e_wz_4:=BlockIs.of hk_wz 4 _ rfl
 have HB:=Lib.hid (bput hb_wa hg_wz (by omega) (Nat.le_refl _))
 have HE0:=Lib.hid h0
 clear h hk_wz hg_wz hb_wa hk_gr h0
 by_cases hm:Ks.now=1099511627776
 ·have e0:(Ks.now == 1099511627776)=true:=by simpa using hm
  rw [if_pos hm] at hE
  subst hE
  clear hm
  go_enter Tryz.func18,Tryz.ntmps18
  go_upto_region 1 with (fail)
  rw [<-hw_wa]
  (try rw [<-hg_gr])
  clear hw_wa hg_gr hs_wa
  go_wp2_with (first | (rw [<-hw_wz];clear hw_wz) | fail)
  refine bodyPost_ret (v:=.tuple #[krowV ⟨0,0,false,0,[]⟩ (.slice none 0 0),.int .i64 2201]) (by simp [results,Tryz.results18,go_sem,e_wz_0,e_wz_1,e_wz_2,e_wz_3,e_wz_4,krowV]) rfl ⟨rfl,HB.out⟩
 ·have e0:(Ks.now == 1099511627776)=false:=by simpa using hm
  rw [if_neg hm] at hE
  by_cases hl:512 < ne
  ·rw [if_pos hl] at hE
   subst hE
   have e1:(512:Int) < (ne:Int):=by omega
   have e2:decide ((ne:Int) > 512)=true:=decide_eq_true (by omega)
   have e3:decide (512 < ne)=true:=decide_eq_true hl
   clear hm
   go_enter Tryz.func18,Tryz.ntmps18
   go_upto_region 1 with (fail)
   rw [<-hw_wa]
   (try rw [<-hg_gr])
   clear hw_wa hg_gr hs_wa
   go_wp2_with (first | (rw [<-hw_wz];clear hw_wz) | fail)
   refine bodyPost_ret (v:=.tuple #[krowV ⟨0,0,false,0,[]⟩ (.slice none 0 0),.int .i64 2200]) (by simp [results,Tryz.results18,go_sem,e_wz_0,e_wz_1,e_wz_2,e_wz_3,e_wz_4,krowV]) rfl ⟨rfl,HB.out⟩
  ·rw [if_neg hl] at hE
   exact absurd hE HE0.out
theorem ktick_any (Y:KLay) (Ks:KSt) (G:Nat->Prop) (m:Int) (w:World) (h:KAt w Y Ks G) (hk:KOk Ks m) (hm:m < 1000000000000000000) (es:List Entry) (v:Value) (he:EntriesV w v es) (hv:OffA v G) :
  Calls Tryz.prog 18 #[.pointer (some ⟨Y.kb,0,none⟩),v] w fun e w'=>∃ a n c,e=.returned (.tuple #[krowV (tickK Ks es).2 (.slice a n c),.int .i64 (tickE Ks es)])/\n=(tickK Ks es).2.events.length/\∃ G',KAt w' Y (tickK Ks es).1 G'/\Moves G G' w w'/\EvRow w' w.heap.size (.slice a n c) (tickK Ks es).2.events/\Off (.slice a n c) G':=by
 obtain ⟨ea,ec,rfl,hb1,hb2,hb3,-⟩:=id he
 by_cases h0:tickE Ks es=0
 ·obtain ⟨h1,h2⟩:=tickE_zero h0
  refine (ktick_main Y Ks G m w h hk hm es ea es.length ec rfl he (fun a e=>hv a _ _ (by rw [e])) h1 h2).mono ?_
  rintro e w' ⟨a,n,c,rfl,G',g1,g2,g3,g4⟩
  exact ⟨a,n,c,by rw [h0];rfl,own_len g3,G',g1,g2,g3,g4⟩
 ·refine (ktick_no Y Ks G w h ea es.length ec (by omega) (tickE Ks es) rfl h0).mono ?_
  rintro e w' ⟨rfl,hb⟩
  rw [tickK_no h0]
  exact ⟨none,0,0,rfl,rfl,G,h.below hb,Moves.of_below hb,World.ownsRow_nil _ _ _ _,fun g hg=>by cases hg⟩
end Go.Proofs.YtooeeiiiflfckaaGreat
/- package kernel: New: what holds while it builds. -/
namespace Go.Proofs.YtooeeiiiflfckaaGreat
open Go.RowKit
theorem alone_fine {c:Config} (h:checkCfg c=0) {p:Part} (hp:p∈c.parts):checkCfg (alone p)=0:=by
 obtain ⟨-,-,h3,-⟩:=check_parts h
 obtain ⟨a,b,d⟩:=h3 p hp
 unfold checkCfg alone
 simp [a,b,d,windowsMay,winsFrom]
theorem newBad_not {c:Config} (h:checkCfg c=0) {i:Nat} (hi:i < c.parts.length):newBad (i:Int) c.parts[i]=false:=by
 have h1:=alone_fine h (List.getElem_mem hi)
 have h2:=(check_parts h).2.1
 unfold newBad
 rw [decide_eq_false_iff_not,h1]
 omega
theorem newK_len (c:Config) (start:Int):(newK c start).seats.length=c.parts.length:=by simp [newK]
theorem newK_seat (c:Config) (start:Int) {i:Nat} (hi:i < c.parts.length):(newK c start).seat i=⟨newL (i:Int) c.parts[i],c.parts[i].level,c.parts[i].code,zeroVm,[]⟩:=by
 unfold KSt.seat newK
 simp [List.getD_eq_getElem?_getD,hi]
theorem newK_ok {c:Config} {start:Int} (h:checkCfg c=0) (hs:clockB start=true):KOk (newK c start) 0:=by
 refine ⟨h,newK_len c start,fun i hi=>?_,?_,hs⟩
 ·rw [newK_len] at hi
  rw [newK_seat c start hi]
  exact newL_wf (newBad_not h hi)
 ·simp [newK,Function.comp_def]
theorem admit_cfg {c:Config} (h:admitSpec c=0):checkCfg c=0:=by
 unfold admitSpec at h
 split at h
 ·exact absurd h (by assumption)
 ·omega
def confP (pv wv ov:Value) (cvs:Nat->Value) (c:Config) (W:World):Prop:=CfgIs W pv wv ov c/\∀ j (hj:j < c.parts.length),∃ tv a cap,PartIs W tv (cvs j) c.parts[j]/\pv=.slice (some ⟨a,0,none⟩) c.parts.length cap/\W.cell? ⟨a,j*3,none⟩=some (.int .i64 c.parts[j].level)/\W.cell? ⟨a,j*3+1,none⟩=some tv/\W.cell? ⟨a,j*3+2,none⟩=some (cvs j)
theorem copy_cells {W:World} {B:Nat} {pv wv ov:Value} {c:Config} (h:CopyOf W B pv wv ov c):∃ cvs,Foot (confP pv wv ov cvs c) (Between B W.heap.size) W:=by
 obtain ⟨L,l1,l2⟩:=h.parts
 refine ⟨fun j=>(L[j*3+2]?).getD undef,fun k q=>q.2,fun W' hk'=>?_⟩
 have hk:∀ g,B<=g->g < W.heap.size->W'.heap[g]?=W.heap[g]?:=fun g h1 h2=>hk' g ⟨h1,h2⟩
 have hC:CopyOf W' B pv wv ov c:=by
  have hs:=h
  obtain ⟨h1,h2,h3,h4⟩:=hs
  exact ⟨⟨L,own_far l1 (fun g _=>hk g),fun i hi=>by
   obtain ⟨tv,cv,a1,a2,a3,a4,a5⟩:=l2 i hi
   exact ⟨tv,cv,a1,a2,a3,fun q=>PartOf.far (hi:=0) (a4 hi) hk,fun q=>absurd q (by omega)⟩⟩,own_far h2 (fun g _=>hk g),own_far h3 (fun g _=>hk g),h4⟩
 refine ⟨hC.is,fun j hj=>?_⟩
 obtain ⟨tv,cv,a1,a2,a3,a4,-⟩:=l2 j hj
 have hl1:=own_far (w':=W') l1 (fun g _=>hk g)
 obtain ⟨g,cap,e,-⟩:=ownsRow_some hl1 (by omega)
 subst e
 have hlen:=hl1.1
 have hcv:(L[j*3+2]?).getD undef=cv:=by rw [a3];rfl
 simp only [hcv]
 refine ⟨tv,g,cap,?_,rfl,?_,?_,?_⟩
 ·have hp:=(hC.is.parts)
  obtain ⟨a,cap2,e,-,-,-,h5⟩:=hp
  obtain ⟨b,off,e2,hc⟩:=h5 (by intro q;rw [q] at hj;simp at hj)
  subst e2
  injection e with e1 e2 e3
  injection e1 with e1
  injection e1 with e1 e1o e1n
  subst e1
  subst e1o
  obtain ⟨y0,tv2,cv2,y1,y2,y3⟩:=hc j hj
  rw [Nat.zero_add] at y1 y2
  have q1:W'.cell? ⟨g,j*3+1,none⟩=some tv:=by rw [hl1.cellAt _ (by omega)];exact a2
  have q2:W'.cell? ⟨g,j*3+2,none⟩=some cv:=by rw [hl1.cellAt _ (by omega)];exact a3
  rw [y1] at q1
  rw [y2] at q2
  injection q1 with q1
  injection q2 with q2
  rw [<-q1,<-q2]
  exact y3
 ·rw [hl1.cellAt _ (by omega)];exact a1
 ·rw [hl1.cellAt _ (by omega)];exact a2
 ·rw [hl1.cellAt _ (by omega)];exact a3
def nCells (Y:KLay) (c:Config) (start:Int):List Value:=[vi start,vi start,vi 0,vi 0,vi 0,vi (-1),vi 0,vi 0,.bool false,vi c.frame,vi c.quiet,Y.pv,Y.wv,Y.ov,Y.sv,.pointer none]
structure KMid (B:Nat) (W:World) (Y:KLay) (F:Ix->Nat->Prop) (c:Config) (start:Int) (i:Nat):Prop where
 conf:Foot (confP Y.pv Y.wv Y.ov Y.cv c) (F .conf) W
 row:W.ownsRow B 101 1 Y.sv i ((List.range i).map (fun j=>ptrV (Y.sb j)))
 frow:∀ k,F .row k ↔ Y.sv.ownBlock=some k
 seat:∀ j,j < i->W.heap[Y.sb j]?=some (.cells (sCells Y j ((newK c start).seat j)).toArray 105 (0,0))
 fseat:∀ j k,F (.seat j) k ↔ j < i/\k=Y.sb j
 loc:∀ j,j < i->∃ ps,LocAt W (Y.lb j) (Y.llo j) ps (F (.loc j)) ((newK c start).seat j).loc
 floc:∀ j k,F (.loc j) k->j < i
 ring:∀ j,j < i->RingAt W (Y.rb j) 16 []
 fring:∀ j k,F (.ring j) k ↔ j < i/\k=Y.rb j
 kern:∀ k,F .kern k ↔ k=Y.kb
 cells:W.heap[Y.kb]?=some (.cells (nCells Y c start).toArray 100 (0,0))
 port:∀ k,¬ F .port k
 dis:∀ x y k,F x k->F y k->x=y
 low:∀ x k,F x k->B<=k
theorem KMid.lt {B:Nat} {W:World} {Y:KLay} {F:Ix->Nat->Prop} {c:Config} {start:Int} {i:Nat} (h:KMid B W Y F c start i):∀ x k,F x k->k < W.heap.size:=by
 intro x k hk
 cases x with
 | kern=>rw [(h.kern k).1 hk];exact lt_of_block h.cells
 | port=>exact absurd hk (h.port k)
 | conf=>exact h.conf.lt k hk
 | row=>exact (h.row.lt k ((h.frow k).1 hk)).2
 | seat j=>obtain ⟨q,rfl⟩:=(h.fseat j k).1 hk;exact lt_of_block (h.seat j q)
 | loc j=>obtain ⟨ps,hl⟩:=h.loc j (h.floc j k hk);exact hl.lt hk
 | ring j=>obtain ⟨q,rfl⟩:=(h.fring j k).1 hk;exact (h.ring j q).lt
theorem KMid.far {B:Nat} {W W':World} {Y:KLay} {F:Ix->Nat->Prop} {c:Config} {start:Int} {i:Nat} (h:KMid B W Y F c start i) (hk:∀ x k,F x k->W'.heap[k]?=W.heap[k]?):KMid B W' Y F c start i where
 conf:=h.conf.far (hk _)
 row:=own_far h.row (fun g hg _ _=>hk .row g ((h.frow g).2 hg))
 frow:=h.frow
 seat:=fun j q=>(hk (.seat j) _ ((h.fseat j _).2 ⟨q,rfl⟩)).trans (h.seat j q)
 fseat:=h.fseat
 loc:=fun j q=>by obtain ⟨ps,hl⟩:=h.loc j q;exact ⟨ps,hl.far (hk (.loc j))⟩
 floc:=h.floc
 ring:=fun j q=>(h.ring j q).keep (hk (.ring j) _ ((h.fring j _).2 ⟨q,rfl⟩))
 fring:=h.fring
 kern:=h.kern
 cells:=(hk .kern _ ((h.kern _).2 rfl)).trans h.cells
 port:=h.port
 dis:=h.dis
 low:=h.low
theorem KMid.below {B:Nat} {W W':World} {Y:KLay} {F:Ix->Nat->Prop} {c:Config} {start:Int} {i:Nat} (h:KMid B W Y F c start i) (hb:Below W.heap.size W W'):KMid B W' Y F c start i:=h.far (fun x k hk=>hb.block k (h.lt x k hk))
def addY (Y:KLay) (i gs lb llo rb:Nat) (v:Value):KLay:={ Y with sv:=v,sb:=fun j=>if j=i then gs else Y.sb j,lb:=fun j=>if j=i then lb else Y.lb j,llo:=fun j=>if j=i then llo else Y.llo j,rb:=fun j=>if j=i then rb else Y.rb j }
def addF (F:Ix->Nat->Prop) (i gs rb:Nat) (FL:Nat->Prop) (v:Value):Ix->Nat->Prop
 | .row=>fun k=>v.ownBlock=some k
 | .seat j=>if j=i then fun k=>k=gs else F (.seat j)
 | .loc j=>if j=i then FL else F (.loc j)
 | .ring j=>if j=i then fun k=>k=rb else F (.ring j)
 | .kern=>F .kern
 | .port=>F .port
 | .conf=>F .conf
theorem KMid.add {B:Nat} {W W':World} {Y:KLay} {F:Ix->Nat->Prop} {c:Config} {start:Int} {i:Nat} (h:KMid B W Y F c start i) (hi:i < c.parts.length) (hBW:B<=W.heap.size) {gs lb llo rb:Nat} {v:Value} {ps:List Nat} {FL:Nat->Prop}
  (hk:∀ k,k < W.heap.size->k≠Y.kb->Y.sv.ownBlock≠some k->W'.heap[k]?=W.heap[k]?)
  (hgs:W.heap.size<=gs) (hsc:W'.heap[gs]?=some (.cells (ptrV lb::vi c.parts[i].level::Y.cv i::vi 0::vi 0::(List.replicate 16 (vi 0) ++ [ptrV rb])).toArray 105 (0,0)))
  (hl:LocAt W' lb llo ps FL (newL (i:Int) c.parts[i])) (hFL:∀ k,FL k->W.heap.size<=k/\k≠gs/\k≠rb)
  (hr:RingAt W' rb 16 []) (hrb:W.heap.size<=rb/\rb≠gs)
  (hrow:W'.ownsRow B 101 1 v (i+1) ((List.range i).map (fun j=>ptrV (Y.sb j)) ++ [ptrV gs]))
  (hv:∀ k,v.ownBlock=some k->Y.sv.ownBlock=some k∨W.heap.size<=k/\k≠gs/\k≠rb/\¬ FL k)
  (hkc:W'.heap[Y.kb]?=some (.cells (nCells (addY Y i gs lb llo rb v) c start).toArray 100 (0,0))) :
  KMid B W' (addY Y i gs lb llo rb v) (addF F i gs rb FL v) c start (i+1):=by
 have hold:∀ x k,F x k->x≠.kern->x≠.row->W'.heap[k]?=W.heap[k]?:=fun x k hx h1 h2=>hk k (h.lt x k hx) (fun e=>h1 (h.dis x .kern k hx ((h.kern k).2 e))) (fun e=>h2 (h.dis x .row k hx ((h.frow k).2 e)))
 have hcl:∀ x k,addF F i gs rb FL v x k->(F x k/\x≠.seat i/\x≠.loc i/\x≠.ring i)∨(W.heap.size<=k/\((x=.row/\k≠gs/\k≠rb/\¬ FL k)∨(x=.seat i/\k=gs)∨(x=.loc i/\FL k)∨(x=.ring i/\k=rb))):=by
  intro x k hx
  cases x with
  | kern=>exact .inl ⟨hx,by simp⟩
  | port=>exact .inl ⟨hx,by simp⟩
  | conf=>exact .inl ⟨hx,by simp⟩
  | row =>
   rcases hv k hx with q | q
   ·exact .inl ⟨(h.frow k).2 q,by simp⟩
   ·exact .inr ⟨q.1,.inl ⟨rfl,q.2⟩⟩
  | seat j =>
   simp only [addF] at hx
   split at hx
   ·rename_i e;subst e;subst hx;exact .inr ⟨hgs,.inr (.inl ⟨rfl,rfl⟩)⟩
   ·rename_i e;exact .inl ⟨hx,by simp [e]⟩
  | loc j =>
   simp only [addF] at hx
   split at hx
   ·rename_i e;subst e;exact .inr ⟨(hFL k hx).1,.inr (.inr (.inl ⟨rfl,hx⟩))⟩
   ·rename_i e;exact .inl ⟨hx,by simp [e]⟩
  | ring j =>
   simp only [addF] at hx
   split at hx
   ·rename_i e;subst e;subst hx;exact .inr ⟨hrb.1,.inr (.inr (.inr ⟨rfl,rfl⟩))⟩
   ·rename_i e;exact .inl ⟨hx,by simp [e]⟩
 have hseat:∀ j,j < i->sCells (addY Y i gs lb llo rb v) j ((newK c start).seat j)=sCells Y j ((newK c start).seat j):=fun j q=>by
  unfold sCells addY
  simp only [show ¬ j=i by omega,if_false]
 refine ⟨h.conf.far (fun k q=>hold .conf k q (by simp) (by simp)),?_,fun k=>Iff.rfl,fun j q=>?_,fun j k=>?_,fun j q=>?_,fun j k q=>?_,fun j q=>?_,fun j k=>?_,h.kern,hkc,h.port,fun x y k hx hy=>?_,fun x k hx=>?_⟩
 ·have e:(List.range (i+1)).map (fun j=>ptrV ((addY Y i gs lb llo rb v).sb j))=(List.range i).map (fun j=>ptrV (Y.sb j)) ++ [ptrV gs]:=by
   rw [List.range_succ,List.map_append]
   congr 1
   ·apply List.map_congr_left
    intro j hj
    have:=List.mem_range.1 hj
    simp only [addY,show ¬ j=i by omega,if_false]
   ·simp [addY]
  rw [e]
  exact hrow
 ·by_cases e:j=i
  ·subst e
   rw [newK_seat c start hi]
   simp only [addY,sCells,zeroVm,if_true]
   exact hsc
  ·have q2:j < i:=by omega
   rw [hseat j q2]
   simp only [addY,e,if_false]
   exact (hold (.seat j) _ ((h.fseat j _).2 ⟨q2,rfl⟩) (by simp) (by simp)).trans (h.seat j q2)
 ·by_cases e:j=i
  ·subst e
   simp [addF,addY]
  ·simp only [addF,addY,e,if_false]
   rw [h.fseat j k]
   constructor <;> (intro q;exact ⟨by omega,q.2⟩)
 ·by_cases e:j=i
  ·subst e
   rw [newK_seat c start hi]
   simp only [addF,addY,if_true]
   exact ⟨ps,hl⟩
  ·have q2:j < i:=by omega
   obtain ⟨ps2,hl2⟩:=h.loc j q2
   simp only [addF,addY,e,if_false]
   exact ⟨ps2,hl2.far (fun k hf=>hold (.loc j) k hf (by simp) (by simp))⟩
 ·by_cases e:j=i
  ·omega
  ·simp only [addF,e,if_false] at q
   have:=h.floc j k q
   omega
 ·by_cases e:j=i
  ·subst e
   simp only [addY,if_true]
   exact hr
  ·have q2:j < i:=by omega
   simp only [addY,e,if_false]
   exact (h.ring j q2).keep (hold (.ring j) _ ((h.fring j _).2 ⟨q2,rfl⟩) (by simp) (by simp))
 ·by_cases e:j=i
  ·subst e
   simp [addF,addY]
  ·simp only [addF,addY,e,if_false]
   rw [h.fring j k]
   constructor <;> (intro q;exact ⟨by omega,q.2⟩)
 ·rcases hcl x k hx with ⟨a1,-⟩ | ⟨a1,a2⟩ <;> rcases hcl y k hy with ⟨b1,-⟩ | ⟨b1,b2⟩
  ·exact h.dis x y k a1 b1
  ·have:=h.lt x k a1;omega
  ·have:=h.lt y k b1;omega
  ·rcases a2 with ⟨rfl,a3,a4,a5⟩ | ⟨rfl,a3⟩ | ⟨rfl,a3⟩ | ⟨rfl,a3⟩ <;> rcases b2 with ⟨rfl,b3,b4,b5⟩ | ⟨rfl,b3⟩ | ⟨rfl,b3⟩ | ⟨rfl,b3⟩
   all_goals first
    | rfl
    | exact absurd b3 (by assumption)
    | exact absurd a3 (by assumption)
    | (have:=(hFL k b3).2;omega)
    | (have:=(hFL k a3).2;omega)
    | (have:=hrb.2;omega)
 ·rcases hcl x k hx with ⟨a1,-⟩ | ⟨a1,-⟩
  ·exact h.low x k a1
  ·omega
theorem KMid.round {B:Nat} {wr ws w3 w4 w5 w6 w8 w9:World} {Y:KLay} {F:Ix->Nat->Prop} {c:Config} {start:Int} {k:Nat} (h:KMid B wr Y F c start k) (hi:k < c.parts.length) (hB:B<=wr.heap.size) {gs lb rb:Nat} {v:Value} {ps:List Nat} {FL:Nat->Prop} {o:Obj}
  (hb1:Below wr.heap.size wr ws) (hgs:wr.heap.size<=gs) (hks:ws.heap[gs]?=some (.cells (.pointer none::vi c.parts[k].level::Y.cv k::vi 0::vi 0::(List.replicate 16 (vi 0) ++ [.pointer none])).toArray 105 (0,0)))
  (hb3:Below ws.heap.size ws w3) (hl:LocAt w3 lb ws.heap.size ps FL (newL (k:Int) c.parts[k])) (e4:w4=w3.setCell ⟨gs,0,none⟩ (ptrV lb))
  (hb5:Below w4.heap.size w4 w5) (hr:RingAt w5 rb 16 []) (hrb:rb=w4.heap.size) (e6:w6=w5.setCell ⟨gs,21,none⟩ (ptrV rb))
  (hg8:(w6.alloc o).grownBy w8 Y.sv.ownBlock) (hat:v.ownBlock=Y.sv.ownBlock∨v.ownBlock=some (w6.alloc o).heap.size)
  (hrow:w8.ownsRow B 101 1 v (k+1) ((List.range k).map (fun j=>ptrV (Y.sb j)) ++ [ptrV gs])) (e9:w9=w8.setCell ⟨Y.kb,14,none⟩ v) :
  KMid B w9 (addY Y k gs lb ws.heap.size rb v) (addF F k gs rb FL v) c start (k+1)/\Below B wr w9:=by
 have hgsl:=lt_of_block hks
 have hkbl:=lt_of_block h.cells
 have hkbB:=h.low .kern _ ((h.kern _).2 rfl)
 have s3:=hb3.size
 have g4:=set_grown w3 gs 0 (ptrV lb)
 rw [<-e4] at g4
 have s4:=g4.size
 have s4':w4.heap.size=w3.heap.size:=by rw [e4];simp [World.setCell]
 have s5:=hb5.size
 have g6:=set_grown w5 gs 21 (ptrV rb)
 rw [<-e6] at g6
 have s6':w6.heap.size=w5.heap.size:=by rw [e6];simp [World.setCell]
 have ba:=balloc w6 o
 have sa:(w6.alloc o).heap.size=w6.heap.size+1:=by simp
 have s8:=hg8.size
 have g9:=set_grown w8 Y.kb 14 v
 rw [<-e9] at g9
 have s9':w9.heap.size=w8.heap.size:=by rw [e9];simp [World.setCell]
 have svl:∀ g,Y.sv.ownBlock=some g->g < wr.heap.size/\B<=g/\g≠Y.kb:=fun g hg=>⟨(h.row.lt g hg).2,(h.row.lt g hg).1,fun e=>by have:=h.dis .row .kern g ((h.frow g).2 hg) ((h.kern g).2 e);cases this⟩
 have hn4:∀ j,j < w3.heap.size->j≠gs->w4.heap[j]?=w3.heap[j]?:=fun j q e=>g4.block j q (fun q=>e (by injection q))
 have hn6:∀ j,j < w5.heap.size->j≠gs->w6.heap[j]?=w5.heap[j]?:=fun j q e=>g6.block j q (fun q=>e (by injection q))
 have hn8:∀ j,j < w6.heap.size->Y.sv.ownBlock≠some j->w8.heap[j]?=w6.heap[j]?:=fun j q e=>(hg8.block j (by omega) (fun q=>e q.symm)).trans (ba.block j q)
 have hn9:∀ j,j < w8.heap.size->j≠Y.kb->w9.heap[j]?=w8.heap[j]?:=fun j q e=>g9.block j q (fun q=>e (by injection q))
 have hnew:∀ j,wr.heap.size<=j->Y.sv.ownBlock≠some j/\j≠Y.kb:=fun j q=>⟨fun e=>by have:=(svl j e).1;omega,by omega⟩
 have hsc:w9.heap[gs]?=some (.cells (ptrV lb::vi c.parts[k].level::Y.cv k::vi 0::vi 0::(List.replicate 16 (vi 0) ++ [ptrV rb])).toArray 105 (0,0)):=by
  have h3:=keep_at hks hb3
  have h4:=blk_set h3 0 (ptrV lb)
  rw [<-e4] at h4
  have h5:=keep_at h4 hb5
  have h6:=blk_set h5 21 (ptrV rb)
  rw [<-e6] at h6
  rw [hn9 gs (by omega) (hnew gs hgs).2,hn8 gs (by omega) (hnew gs hgs).1,h6]
  rfl
 have hFL:∀ j,FL j->ws.heap.size<=j/\j < w3.heap.size:=fun j q=>⟨hl.fl j q,hl.lt q⟩
 have hl9:LocAt w9 lb ws.heap.size ps FL (newL (k:Int) c.parts[k]):=hl.far (fun j q=>by
  obtain ⟨q1,q2⟩:=hFL j q
  rw [hn9 j (by omega) (hnew j (by omega)).2,hn8 j (by omega) (hnew j (by omega)).1,hn6 j (by omega) (by omega),hb5.block j (by omega),hn4 j q2 (by omega)])
 have hrl:=hr.lt
 have hr9:RingAt w9 rb 16 []:=hr.keep (by rw [hn9 rb (by omega) (hnew rb (by omega)).2,hn8 rb (by omega) (hnew rb (by omega)).1,hn6 rb (by omega) (by omega)])
 have hold:∀ j,j < wr.heap.size->j≠Y.kb->Y.sv.ownBlock≠some j->w9.heap[j]?=wr.heap[j]?:=fun j q q1 q2=>by
  rw [hn9 j (by omega) q1,hn8 j (by omega) q2,hn6 j (by omega) (by omega),hb5.block j (by omega),hn4 j (by omega) (by omega),hb3.block j (by omega),hb1.block j q]
 have hkc8:w8.heap[Y.kb]?=some (.cells (nCells Y c start).toArray 100 (0,0)):=by
  have hne:Y.sv.ownBlock≠some Y.kb:=fun e=>(svl _ e).2.2 rfl
  rw [hn8 Y.kb (by omega) hne,hn6 Y.kb (by omega) (by omega),hb5.block Y.kb (by omega),hn4 Y.kb (by omega) (by omega),hb3.block Y.kb (by omega),hb1.block Y.kb hkbl]
  exact h.cells
 have hkc:w9.heap[Y.kb]?=some (.cells (nCells (addY Y k gs lb ws.heap.size rb v) c start).toArray 100 (0,0)):=by
  have h9:=blk_set hkc8 14 v
  rw [<-e9] at h9
  rw [h9]
  rfl
 have hrow9:w9.ownsRow B 101 1 v (k+1) ((List.range k).map (fun j=>ptrV (Y.sb j)) ++ [ptrV gs]):=own_apart hrow g9 (fun g q=>by injection q with q;rw [<-q];exact ⟨_,hkc8⟩) (by decide)
 refine ⟨h.add hi hB hold hgs hsc hl9 (fun j q=>by have:=hFL j q;omega) hr9 ⟨by omega,by omega⟩ hrow9 (fun j q=>?_) hkc,?_⟩
 ·rcases hat with e | e
  ·exact .inl (e ▸ q)
  ·rw [e] at q
   injection q with q
   right
   refine ⟨by omega,by omega,by omega,fun q2=>?_⟩
   have:=hFL j q2
   omega
 ·have b4:Below B wr w4:=(bput ((hb1.mono hB).trans (hb3.mono (by omega))) g4 (by omega) hB)
  have b6:Below B wr w6:=bput (b4.trans (hb5.mono (by omega))) g6 (by omega) hB
  have b7:Below B wr (w6.alloc o):=b6.trans (ba.mono (by omega))
  have b8:Below B wr w8:=b7.grown hg8 (by omega) (fun g q=>(svl g q).2.1)
  exact bput b8 g9 (by omega) hB
theorem KMid.done {B:Nat} {W W':World} {Y:KLay} {F:Ix->Nat->Prop} {c:Config} {start:Int} (h:KMid B W Y F c start c.parts.length) {pb lo hi:Nat} (hBW:B<=W.heap.size) (hlo:W.heap.size<=lo)
  (hk:∀ k,k < W.heap.size->k≠Y.kb->W'.heap[k]?=W.heap[k]?) (hp:PortsIs W' pb lo hi (newK c start).ports)
  (hkc:W'.heap[Y.kb]?=some (.cells (kCells { Y with pb:=pb,plo:=lo,phi:=hi } (newK c start)).toArray 100 (0,0))) :
  ∃ G,KAt W' { Y with pb:=pb,plo:=lo,phi:=hi } (newK c start) G/\∀ k,G k->B<=k:=by
 have hold:∀ x k,F x k->x≠.kern->W'.heap[k]?=W.heap[k]?:=fun x k hx h1=>hk k (h.lt x k hx) (fun e=>h1 (h.dis x .kern k hx ((h.kern k).2 e)))
 have hlen:=newK_len c start
 have hh2:=hp.hi2
 refine ⟨All (fun x=>match x with | .port=>Between lo hi | x=>F x),⟨_,⟨fun x=>?_,fun x y k hx hy=>?_⟩,rfl⟩,fun k ⟨x,hx⟩=>?_⟩
 ·cases x with
  | kern=>exact ⟨fun k q=>by rw [(h.kern k).1 q];exact lt_of_block hkc,fun W2 h2=>⟨(h.kern _).2 rfl,(h2 _ ((h.kern _).2 rfl)).trans hkc⟩⟩
  | port=>exact ⟨fun k q=>Nat.lt_of_lt_of_le q.2 hh2,fun W2 h2=>⟨fun k=>Iff.rfl,hp.same h2⟩⟩
  | conf =>
   refine (h.conf.far (fun k q=>hold .conf k q (by simp))).imp (fun W2 q=>⟨q.1,fun i hi'=>?_⟩)
   rw [hlen] at hi'
   rw [newK_seat c start hi']
   obtain ⟨tv,a,cap,hp,-⟩:=q.2 i hi'
   exact hp.code
  | row =>
   refine ⟨fun k q=>Nat.lt_of_lt_of_le (h.lt .row k q) ?_,fun W2 h2=>?_⟩
   ·have:=same_lt (lt_of_block h.cells) (W':=W') (k:=Y.kb)
    rcases Nat.lt_or_ge W'.heap.size W.heap.size with q2 | q2
    ·exfalso
     obtain ⟨Ls,h1,-⟩:=hp
     have:=h1.pb1
     have:=h1.pb2
     have:=h1.hi2
     omega
    ·exact q2
   ·show W2.ownsRow 0 _ 1 Y.sv _ _
    rw [hlen]
    exact own_low (own_far h.row (fun g hg _ _=>(h2 g ((h.frow g).2 hg)).trans (hold .row g ((h.frow g).2 hg) (by simp)))) (Nat.zero_le _)
  | seat j =>
   refine ⟨fun k q=>same_lt (h.lt (.seat j) k q) (hold (.seat j) k q (by simp)),fun W2 h2 hj=>?_⟩
   rw [hlen] at hj
   have hf:=(h.fseat j _).2 ⟨hj,rfl⟩
   refine ⟨hf,((h2 _ hf).trans (hold (.seat j) _ hf (by simp))).trans (h.seat j hj),?_⟩
   rw [newK_seat c start hj]
   rfl
  | loc j =>
   refine ⟨fun k q=>same_lt (h.lt (.loc j) k q) (hold (.loc j) k q (by simp)),fun W2 h2 hj=>?_⟩
   rw [hlen] at hj
   obtain ⟨ps,hl⟩:=h.loc j hj
   exact ⟨ps,hl.far (fun k q=>(h2 k q).trans (hold (.loc j) k q (by simp)))⟩
  | ring j =>
   refine ⟨fun k q=>same_lt (h.lt (.ring j) k q) (hold (.ring j) k q (by simp)),fun W2 h2 hj=>?_⟩
   rw [hlen] at hj
   have hf:=(h.fring j _).2 ⟨hj,rfl⟩
   refine ⟨hf,?_⟩
   rw [newK_seat c start hj]
   exact (h.ring j hj).keep ((h2 _ hf).trans (hold (.ring j) _ hf (by simp)))
 ·have hn:∀ x k,x≠.port->(match x with | .port=>Between lo hi | x=>F x) k->F x k:=by
   intro x k hx q
   cases x <;> first | exact q | exact absurd rfl hx
  by_cases e1:x=.port <;> by_cases e2:y=.port
  ·rw [e1,e2]
  ·subst e1
   have q1:Between lo hi k:=hx
   have:=h.lt y k (hn y k e2 hy)
   have:=q1.1
   omega
  ·subst e2
   have q1:Between lo hi k:=hy
   have:=h.lt x k (hn x k e1 hx)
   have:=q1.1
   omega
  ·exact h.dis x y k (hn x k e1 hx) (hn y k e2 hy)
 ·cases x with
  | port=>have q:Between lo hi k:=hx;have:=q.1;omega
  | kern=>exact h.low .kern k hx
  | conf=>exact h.low .conf k hx
  | row=>exact h.low .row k hx
  | seat j=>exact h.low (.seat j) k hx
  | loc j=>exact h.low (.loc j) k hx
  | ring j=>exact h.low (.ring j) k hx
end Go.Proofs.YtooeeiiiflfckaaGreat
/- package kernel: New. -/
namespace Go.Proofs.YtooeeiiiflfckaaGreat
open Go.RowKit
theorem infoSeatP:(Tryz.prog.info? 101).map (fun i=>(i.zero,i.size,i.bytes))=some (some (.pointer none),1,8):=by kernel_rfl
theorem slackNew_any (w:World):Calls Tryz.prog 37 #[] w fun e w'=>e=.returned (ledV ⟨0,0,0,-1⟩)/\Below w.heap.size w w':=by
 obtain ⟨wa,ga,hw_wa,hg_ga,hb_wa,hk_ga,hs_wa⟩:=alloc_all w (.cells #[.int .i64 0,.int .i64 0,.int .i64 0,.int .i64 (-1)] 63)
 have c0:=BlockIs.of hk_ga 0 (.int .i64 0) rfl
 have c1:=BlockIs.of hk_ga 1 (.int .i64 0) rfl
 have c2:=BlockIs.of hk_ga 2 (.int .i64 0) rfl
 have c3:=BlockIs.of hk_ga 3 (.int .i64 (-1)) rfl
 have HB:=Lib.hid hb_wa
 go_enter Tryz.func37,Tryz.ntmps37
 go_wp2_with fail
 rw [<-hw_wa]
 (try rw [<-hg_ga])
 refine bodyPost_ret (v:=ledV ⟨0,0,0,-1⟩) (by simp [results,Tryz.results37,go_sem,c0,c1,c2,c3,ledV]) rfl ⟨rfl,by subst hg_ga;exact HB.out⟩
theorem new_ports {w:World} {pb lo hi:Nat} {Ls:List Ln} {c:Config} {start:Int} (h:PortsAt w pb lo hi Ls) (h1:Ls.map (·.p)=c.ports) (h2:∀ l∈Ls,l.q=[]):PortsIs w pb lo hi (newK c start).ports:=by
 refine ⟨Ls,h,?_⟩
 show c.ports.map (fun p=>(p,[]))=_
 rw [<-h1,List.map_map]
 apply List.map_congr_left
 intro l hl
 show (l.p,[])=Ln.st l
 rw [show Ln.st l=(l.p,l.q) from rfl,h2 l hl]
def NewPost (c:Config) (start:Int) (w:World) (ae:Int) (cb:Bool) (e:Ending) (w':World):Prop :=
 (ae≠0->e=.returned (.tuple #[.pointer none,.int .i64 ae]))/\(ae=0->cb=false->e=.returned (.tuple #[.pointer none,.int .i64 2200])) /\
  (ae=0->cb=true->∃ Y G,e=.returned (.tuple #[.pointer (some ⟨Y.kb,0,none⟩),.int .i64 0])/\KAt w' Y (newK c start) G/\∀ k,G k->w.heap.size<=k)/\Below w.heap.size w w'
set_option maxRecDepth 100000 in
set_option maxHeartbeats 16000000 in
theorem knew_any (c:Config) (v:Value) (start:Int) (w:World) (hc:CfgV w v c) :
  Calls Tryz.prog 16 #[v,.int .i64 start] w fun e w'=>NewPost c start w (admitSpec c) (clockB start) e w':=by
 obtain ⟨pv,wv,ov,rfl,hcfg⟩:=id hc
 obtain ⟨ae,hae⟩:∃ ae,ae=admitSpec c:=⟨_,rfl⟩
 obtain ⟨cb,hcb⟩:∃ cb,cb=clockB start:=⟨_,rfl⟩
 rw [<-hae,<-hcb]
 have HAE:=Lib.hid hae
 have HCB:=Lib.hid hcb
 clear hae hcb
 go_enter Tryz.func16,Tryz.ntmps16
 obtain ⟨wa,ga,hw_wa,hg_ga,hb_wa,hk_ga,hs_wa⟩:=alloc_all w (.cells #[.int .i64 c.frame,.int .i64 c.quiet,pv,wv,ov] 26)
 have HA:=Lib.hid hk_ga
 have HBA:=Lib.hid hb_wa
 have HCF:=Lib.hid (hcfg.ext (Ext.below hb_wa))
 have y0:=BlockIs.of hk_ga 0 _ rfl
 have y1:=BlockIs.of hk_ga 1 _ rfl
 have y2:=BlockIs.of hk_ga 2 _ rfl
 have y3:=BlockIs.of hk_ga 3 _ rfl
 have y4:=BlockIs.of hk_ga 4 _ rfl
 clear hk_ga hb_wa hs_wa hc hcfg
 go_wp2_with fail
 rw [<-hw_wa,<-hg_ga]
 clear hw_wa hg_ga
 refine (admit_any c _ _ ⟨_,_,_,rfl,HCF.out⟩).mono ?_
 rintro e w1 ⟨rfl,hb⟩
 have HB1:=Lib.hid (bthen HBA.out hb)
 have HA1:=Lib.hid (keep_at HA.out hb)
 have HC1:=Lib.hid (HCF.out.ext (Ext.below hb))
 rw [<-HAE.out]
 clear hb y0 y1 y2 y3 y4 HA HBA HCF
 by_cases h0:ae=0
 rotate_left
 ·have d0:(ae != 0)=true:=by simpa using h0
  have HE:=Lib.hid h0
  clear h0
  go_wp2_with fail
  go_ret2
  exact ⟨fun _=>rfl,fun q=>absurd q HE.out,fun q=>absurd q HE.out,HB1.out⟩
 subst h0
 have hck:=admit_cfg HAE.out.symm
 have HCK:=Lib.hid hck
 clear hck
 have y0:=BlockIs.of HA1.out 0 _ rfl
 have y1:=BlockIs.of HA1.out 1 _ rfl
 have y2:=BlockIs.of HA1.out 2 _ rfl
 have y3:=BlockIs.of HA1.out 3 _ rfl
 have y4:=BlockIs.of HA1.out 4 _ rfl
 go_wp2_with fail
 refine (clock_any start _).mono ?_
 rw [show decide (0<=start/\start<=1099511627776)=cb from HCB.out.symm]
 rintro e w' ⟨rfl,hw⟩
 subst w'
 cases cb
 ·go_wp2_with fail
  go_ret2
  exact ⟨fun q=>absurd rfl q,fun _ _=>rfl,fun _ q=>(by cases q),HB1.out⟩
 go_wp2_with fail
 refine (copyC_any c _ _ ⟨_,_,_,rfl,HC1.out⟩).mono ?_
 rintro e w2 ⟨pv2,wv2,ov2,rfl,hco,hb2⟩
 obtain ⟨cvs,hft⟩:=copy_cells hco
 have HB2:=Lib.hid (bthen HB1.out hb2)
 obtain ⟨B2,hB2⟩:∃ B2,B2=w1.heap.size:=⟨_,rfl⟩
 rw [<-hB2] at hft
 have HBB:=Lib.hid (show w.heap.size<=B2/\B2<=w2.heap.size by rw [hB2];exact ⟨HB1.out.size,hb2.size⟩)
 have HFT:=Lib.hid hft
 obtain ⟨hi2,hhi⟩:∃ hi2,hi2=w2.heap.size:=⟨_,rfl⟩
 rw [<-hhi] at HFT
 have HHI:=Lib.hid hhi
 obtain ⟨pa,pcap,wa2,wcap,oa,ocap,hpv,hwv,hov⟩:∃ pa pcap wa2 wcap oa ocap,pv2=.slice (some ⟨pa,0,none⟩) c.parts.length pcap/\wv2=.slice wa2 c.windows.length wcap/\ov2=.slice oa c.ports.length ocap:=by
  obtain ⟨q1,q2⟩:=hft.now
  have hn:=(check_parts HCK.out).2.1.1
  obtain ⟨tv,a,cap,-,e,-⟩:=q2 0 (by omega)
  obtain ⟨qa,qk,ra,rk,sa,sk,e1,e2,e3⟩:=q1.shape
  exact ⟨a,cap,ra,rk,sa,sk,e,e2,e3⟩
 obtain ⟨n,hn⟩:∃ n,n=c.parts.length:=⟨_,rfl⟩
 obtain ⟨nw,hnw⟩:∃ nw,nw=c.windows.length:=⟨_,rfl⟩
 obtain ⟨no,hno⟩:∃ no,no=c.ports.length:=⟨_,rfl⟩
 have hn8:n<=8:=by rw [hn];exact (check_parts HCK.out).2.1.2
 rw [<-hn] at hpv
 rw [<-hnw] at hwv
 rw [<-hno] at hov
 have HN:=Lib.hid hn
 have HPV:=Lib.hid hpv
 have HWV:=Lib.hid hwv
 have HOV:=Lib.hid hov
 subst hpv hwv hov
 clear hco hb2 hft hB2 hhi hn hnw hno y0 y1 y2 y3 y4 HA1 HC1 HB1
 go_wp2_with fail
 refine (slackNew_any _).mono ?_
 rintro e w3 ⟨rfl,hb3⟩
 have HB3:=Lib.hid (bthen HB2.out hb3)
 have HF3:=Lib.hid (HFT.out.far (fun k q=>hb3.block k (by have:=HHI.out;have:=q.2;omega)))
 have HS3:=Lib.hid (show hi2<=w3.heap.size by have:=hb3.size;have:=HHI.out;omega)
 clear hb3 HFT HHI HB2
 go_wp2_with fail
 refine (modeNew_any _).mono ?_
 rintro e w4 ⟨rfl,hb4⟩
 have HB4:=Lib.hid (bthen HB3.out hb4)
 have HF4:=Lib.hid (HF3.out.far (fun k q=>hb4.block k (by have:=HS3.out;have:=q.2;omega)))
 have HS4:=Lib.hid (show hi2<=w4.heap.size by have:=hb4.size;have:=HS3.out;omega)
 clear hb4 HF3 HS3 HB3
 unfold ledV modV
 simp only
 obtain ⟨w5,kb,hw_w5,hg_kb,hb_w5,hk_kb,hs_w5⟩:=alloc_all w4 (.cells #[.int .i64 start,.int .i64 start,.int .i64 0,.int .i64 0,.int .i64 0,.int .i64 (-1),.int .i64 0,.int .i64 0,.bool false,.int .i64 c.frame,.int .i64 c.quiet,.slice (some ⟨pa,0,none⟩) n pcap,.slice wa2 nw wcap,.slice oa no ocap,.slice none 0 0,.pointer none] 100)
 have HB5:=Lib.hid (bthen HB4.out hb_w5)
 have kb11:=BlockIs.of hk_kb 11 (.slice (some ⟨pa,0,none⟩) n pcap) rfl
 have HM0:Hid (KMid w.heap.size w5 ⟨kb,0,0,0,.slice (some ⟨pa,0,none⟩) n pcap,.slice wa2 nw wcap,.slice oa no ocap,.slice none 0 0,fun _=>0,fun _=>0,fun _=>0,fun _=>0,cvs⟩ (fun x k=>match x with | .kern=>k=kb | .conf=>Between B2 hi2 k | _=>False) c start 0):=Lib.hid (by
  have hkl:=lt_of_block hk_kb
  refine ⟨HF4.out.far (fun k q=>hb_w5.block k (by have:=HS4.out;have:=q.2;omega)),World.ownsRow_nil _ _ _ _,fun k=>⟨fun q=>q.elim,fun q=>by cases q⟩,fun j q=>absurd q (by omega),fun j k=>⟨fun q=>q.elim,fun q=>absurd q.1 (by omega)⟩,fun j q=>absurd q (by omega),fun j k q=>q.elim,fun j q=>absurd q (by omega),fun j k=>⟨fun q=>q.elim,fun q=>absurd q.1 (by omega)⟩,fun k=>Iff.rfl,hk_kb,fun k q=>q,fun x y k hx hy=>?_,fun x k hx=>?_⟩
  ·have hS:=HS4.out
   cases x <;> cases y <;> first | rfl | exact hx.elim | exact hy.elim | (have q1:k=kb:=hx;have q2:Between B2 hi2 k:=hy;have:=q2.2;omega) | (have q1:k=kb:=hy;have q2:Between B2 hi2 k:=hx;have:=q2.2;omega)
  ·have hS:=HBB.out
   have hb:=HB4.out.size
   cases x <;> first | exact hx.elim | (have q1:k=kb:=hx;omega) | (have q2:Between B2 hi2 k:=hx;have:=q2.1;omega))
 have HKB:=Lib.hid (show w.heap.size<=w5.heap.size by rw [hs_w5];have:=HB4.out.size;omega)
 clear hb_w5 hk_kb HF4 HS4 HB4 HBB
 go_upto_region 7 with (fail)
 rw [<-hw_w5]
 (try rw [<-hg_kb])
 clear hw_w5 hg_kb hs_w5
 go_wp2_with fail
 clear kb11
 go_loopw [35] (fun i wr=>∃ (k:Nat) (Y:KLay) (F:Ix->Nat->Prop),k<=n/\i=.int .i64 k/\Hid (Y.kb=kb/\Y.pv=.slice (some ⟨pa,0,none⟩) n pcap/\Y.wv=.slice wa2 nw wcap/\Y.ov=.slice oa no ocap)/\Hid (KMid w.heap.size wr Y F c start k)/\Hid (Below w.heap.size w wr)/\Hid (w.heap.size<=wr.heap.size)) (fun i _=>n - (intOf i).toNat)
 case atStart=>exact ⟨0,_,_,by omega,rfl,Lib.hid ⟨rfl,rfl,rfl,rfl⟩,HM0,HB5,HKB⟩
 case round =>
  clear HM0 HB5 HKB
  obtain ⟨k,Y,F,hk,rfl,HY,HM,HB,HSZ⟩:=hrel
  by_cases hlt:k < n
  ·have hlt':k < c.parts.length:=by rw [<-HN.out];exact hlt
   have hlk:(k:Int) < (n:Int):=by omega
   obtain ⟨q1,q2⟩:=HM.out.conf.now
   obtain ⟨tv,a,cap,hp,hpv,z0,z1,z2⟩:=q2 k hlt'
   have ha:a=pa:=by
    have:=hpv.symm.trans HY.out.2.1
    injection this with e1
    injection e1 with e1
    injection e1
   subst ha
   obtain ⟨ta,nt,tc,rfl⟩:∃ ta nt tc,tv=.slice ta nt tc:=by obtain ⟨x,y,e,-⟩:=hp.tasks;exact ⟨_,_,_,e⟩
   obtain ⟨ca,nc,cc,hcv⟩:∃ ca nc cc,Y.cv k=.slice ca nc cc:=by obtain ⟨x,y,e,-⟩:=hp.code;exact ⟨_,_,_,e⟩
   obtain ⟨lv,hlv⟩:∃ lv,lv=c.parts[k].level:=⟨_,rfl⟩
   rw [<-hlv] at z0
   rw [hcv] at z2 hp
   obtain ⟨wp,gp,hw_wp,hg_gp,hb_wp,hk_gp,hs_wp⟩:=alloc_all wr (.cells #[.int .i64 lv,.slice ta nt tc,.slice ca nc cc] 49)
   obtain ⟨ws,gs,hw_ws,hg_gs,hb_ws,hk_gs,hs_ws⟩:=alloc_all wp (.cells #[.pointer none,.int .i64 lv,.slice ca nc cc,.int .i64 0,.int .i64 0,.int .i64 0,.int .i64 0,.int .i64 0,.int .i64 0,.int .i64 0,.int .i64 0,.int .i64 0,.int .i64 0,.int .i64 0,.int .i64 0,.int .i64 0,.int .i64 0,.int .i64 0,.int .i64 0,.int .i64 0,.int .i64 0,.pointer none] 105)
   have HBS:=Lib.hid (bthen hb_wp hb_ws)
   have HGS:=Lib.hid (show wr.heap.size<=gs/\gs < ws.heap.size by omega)
   have HKS:Hid (ws.heap[gs]?=some (.cells (.pointer none::vi c.parts[k].level::Y.cv k::vi 0::vi 0::(List.replicate 16 (vi 0) ++ [.pointer none])).toArray 105 (0,0))):=Lib.hid (by rw [hcv,<-hlv];exact hk_gs)
   have p0:=BlockIs.of hk_gp 0 (.int .i64 lv) rfl
   have p2:=BlockIs.of hk_gp 2 (.slice ca nc cc) rfl
   have hgp:=keep_at hk_gp hb_ws
   have u0:=BlockIs.of hgp 0 (.int .i64 lv) rfl
   have u1:=BlockIs.of hgp 1 (.slice ta nt tc) rfl
   have u2:=BlockIs.of hgp 2 (.slice ca nc cc) rfl
   have HP:=Lib.hid (hp.ext (Ext.below HBS.out))
   have HLV:=Lib.hid hlv
   clear q1 q2 hp hpv hcv hlv hb_wp hb_ws hk_gp hk_gs hgp
   go_upto_region 10 with (fail)
   rw [<-hw_wp]
   (try rw [<-hg_gp])
   clear hw_wp hg_gp hs_wp z0 z1 z2
   go_upto_region 11 with (fail)
   rw [<-hw_ws]
   (try rw [<-hg_gs])
   clear hw_ws hg_gs hs_ws p0 p2
   go_wp2_with fail
   have hnb:=newBad_not HCK.out hlt'
   have HT:Hid (∃ w3' lb ps FL,w3'=ws/\lb=0/\ps=([]:List Nat)/\FL=fun _:Nat=>False):=Lib.hid ⟨_,_,_,_,rfl,rfl,rfl,rfl⟩
   clear HT
   rw [HLV.out]
   refine (new_any (k:Int) c.parts[k] (.slice ta nt tc) (.slice ca nc cc) ws HP.out).mono ?_
   rintro e w3 ⟨-,hnew,hb3⟩
   obtain ⟨lb,ps,FL,rfl,hl⟩:=hnew hnb
   rw [<-HLV.out]
   have HL:=Lib.hid hl
   have HB3:=Lib.hid hb3
   have hk3:=keep_at HKS.out hb3
   have s0:w3.cell? ⟨gs,0,none⟩=some (.pointer none):=BlockIs.of hk3 0 _ rfl
   have f0:=thaw hk3
   obtain ⟨w4,hw4⟩:∃ w4,w4=w3.setCell ⟨gs,0,none⟩ (.pointer (some ⟨lb,0,none⟩)):=⟨_,rfl⟩
   have hk4:=blk_set hk3 0 (.pointer (some ⟨lb,0,none⟩))
   rw [<-hw4] at hk4
   have HW4:=Lib.hid hw4
   have HK4:=Lib.hid hk4
   clear hnb hnew hl hb3 hk3 hk4 u0 u1 u2
   go_wp2_with (first | (rw [<-hw4];clear hw4) | fail)
   clear s0 f0
   refine (ringNew_any 16 w4 (by decide) (by decide)).mono ?_
   rintro e w5 ⟨rfl,hr5,hb5⟩
   obtain ⟨rb,hrb⟩:∃ rb,rb=w4.heap.size:=⟨_,rfl⟩
   rw [<-hrb] at hr5 |-
   have HRB:=Lib.hid hrb
   have HR5:=Lib.hid hr5
   have HB5:=Lib.hid hb5
   have hk5:=keep_at HK4.out hb5
   have s21:w5.cell? ⟨gs,21,none⟩=some (.pointer none):=BlockIs.of hk5 21 _ rfl
   have f5:=thaw hk5
   obtain ⟨w6,hw6⟩:∃ w6,w6=w5.setCell ⟨gs,21,none⟩ (.pointer (some ⟨rb,0,none⟩)):=⟨_,rfl⟩
   have HW6:=Lib.hid hw6
   have hks6:w6.heap[Y.kb]?=some (.cells (nCells Y c start).toArray 100 (0,0)):=by
    have hkl:=lt_of_block HM.out.cells
    have q1:=HBS.out.size
    have q3:=HB3.out.size
    have q4:w4.heap.size=w3.heap.size:=by rw [HW4.out];simp [World.setCell]
    have hg:=HGS.out
    have hne:Y.kb≠gs:=by omega
    rw [hw6,Below.heap_setCell _ _ _ _ hne,HB5.out.block _ (by omega),HW4.out,Below.heap_setCell _ _ _ _ hne,HB3.out.block _ (by omega),HBS.out.block _ hkl]
    exact HM.out.cells
   rw [HY.out.1] at hks6
   have kc14:w6.cell? ⟨kb,14,none⟩=some Y.sv:=BlockIs.of hks6 14 _ rfl
   have hrow6:w6.ownsRow w.heap.size 101 1 Y.sv k ((List.range k).map (fun j=>ptrV (Y.sb j))):=by
    have q1:=HBS.out.size
    have q3:=HB3.out.size
    have q4:w4.heap.size=w3.heap.size:=by rw [HW4.out];simp [World.setCell]
    have hg:=HGS.out
    refine own_far HM.out.row (fun g hgo _ hgl=>?_)
    have hne:g≠gs:=by omega
    rw [hw6,Below.heap_setCell _ _ _ _ hne,HB5.out.block _ (by omega),HW4.out,Below.heap_setCell _ _ _ _ hne,HB3.out.block _ (by omega),HBS.out.block _ hgl]
   have hsz6:w.heap.size<=w6.heap.size:=by
    have q1:=HBS.out.size
    have q3:=HB3.out.size
    have q4:w4.heap.size=w3.heap.size:=by rw [HW4.out];simp [World.setCell]
    have q5:=HB5.out.size
    have q6:w6.heap.size=w5.heap.size:=by rw [hw6];simp [World.setCell]
    have:=HSZ.out
    omega
   obtain ⟨sa,sc,hsv⟩:=own_shape hrow6
   rw [hsv] at kc14
   have HR6:=Lib.hid (hsv ▸ hrow6)
   have HSV:=Lib.hid hsv
   have HZ6:=Lib.hid hsz6
   have HK6:=Lib.hid hks6
   clear hrb hr5 hb5 hk5 hks6 hrow6 hsz6 hsv
   go_wp2_with (first | (rw [<-hw6];clear hw6) | (at_builtin;refine append_elem_at rfl (.tmp 66) (.tmp 68) 97 rfl w.heap.size 101 _ 1 8 Tryz.underlying97 infoSeatP rfl (by decide) (.slice sa k sc) k _ rfl HR6.out [.pointer (some ⟨gs,0,none⟩)] w6.heap.size rfl rfl rfl rfl (by omega) (by omega) HZ6.out ?_) | fail)
   intro v8 w8 hrow8 _ hg8 hat8
   obtain ⟨xa,xc,rfl⟩:=own_shape hrow8
   have hks8:w8.heap[kb]?=some (.cells (nCells Y c start).toArray 100 (0,0)):=by
    have ba:=balloc w6 (.cells #[.pointer (some ⟨gs,0,none⟩)] 101)
    have hl:=lt_of_block HK6.out
    have hty:=fun q=>own_typed HR6.out (g:=kb) q
    refine (hg8.block kb (Nat.lt_of_lt_of_le hl ba.size) (fun q=>?_)).trans ((ba.block kb hl).trans HK6.out)
    exact absurd rfl (typed_ne ⟨_,HK6.out⟩ (hty q.symm) (by decide))
   have kd14:w8.cell? ⟨kb,14,none⟩=some (.slice sa k sc):=by rw [<-HSV.out];exact BlockIs.of hks8 14 _ rfl
   have f8:=thaw hks8
   obtain ⟨w9,hw9⟩:∃ w9,w9=w8.setCell ⟨kb,14,none⟩ (.slice xa (k+1) xc):=⟨_,rfl⟩
   have hround:=HM.out.round hlt' HSZ.out HBS.out HGS.out.1 HKS.out HB3.out HL.out HW4.out HB5.out HR5.out HRB.out HW6.out (o:=.cells #[.pointer (some ⟨gs,0,none⟩)] 101) (w8:=w8) (v:=.slice xa (k+1) xc) (by rw [HSV.out];exact hg8) (by rw [HSV.out];simpa using hat8) hrow8 (w9:=w9) (by rw [HY.out.1];exact hw9)
   have HM9:=Lib.hid hround.1
   have HB9:=Lib.hid (HB.out.trans hround.2)
   have HS9:=Lib.hid (Nat.le_trans HSZ.out hround.2.size)
   clear hrow8 hg8 hat8 hks8 hround
   go_wp2_with (first | (rw [<-hw9];clear hw9 kd14 f8) | fail)
   go_roundw
   case rel=>exact ⟨k+1,addY Y k gs lb ws.heap.size rb (.slice xa (k+1) xc),addF F k gs rb FL (.slice xa (k+1) xc),by omega,by go_num,Lib.hid HY.out,HM9,HB9,HS9⟩
   case measure=>simp [intOf];omega
  ·obtain rfl:k=n:=by omega
   obtain ⟨q1,q2,q3,q4⟩:=HY.out
   have hkc:=HM.out.cells
   rw [q1] at hkc
   have kc9:wr.cell? ⟨kb,9,none⟩=some (.int .i64 c.frame):=BlockIs.of hkc 9 _ rfl
   have kc10:wr.cell? ⟨kb,10,none⟩=some (.int .i64 c.quiet):=BlockIs.of hkc 10 _ rfl
   have kc11:wr.cell? ⟨kb,11,none⟩=some (.slice (some ⟨pa,0,none⟩) k pcap):=by rw [<-q2];exact BlockIs.of hkc 11 _ rfl
   have kc12:wr.cell? ⟨kb,12,none⟩=some (.slice wa2 nw wcap):=by rw [<-q3];exact BlockIs.of hkc 12 _ rfl
   have kc13:wr.cell? ⟨kb,13,none⟩=some (.slice oa no ocap):=by rw [<-q4];exact BlockIs.of hkc 13 _ rfl
   have HC:=Lib.hid (show CfgIs wr (.slice (some ⟨pa,0,none⟩) k pcap) (.slice wa2 nw wcap) (.slice oa no ocap) c from by rw [<-q2,<-q3,<-q4];exact HM.out.conf.now.1)
   have HKC:=Lib.hid hkc
   clear q1 q2 q3 q4 hkc
   go_wp2_with fail
   refine (ports_new c _ wr ⟨_,_,_,rfl,HC.out⟩).mono ?_
   rintro e w3 ⟨-,hp,hb⟩
   obtain ⟨pb,Ls,rfl,hp1,hp2,hp3⟩:=hp HCK.out
   have HP:=Lib.hid (new_ports (start:=start) hp1 hp2 hp3)
   have HB3:=Lib.hid hb
   have hk3:=keep_at HKC.out hb
   have kd15:w3.cell? ⟨kb,15,none⟩=some (.pointer none):=BlockIs.of hk3 15 _ rfl
   have f3:=thaw hk3
   obtain ⟨w4,hw4⟩:∃ w4,w4=w3.setCell ⟨kb,15,none⟩ (.pointer (some ⟨pb,0,none⟩)):=⟨_,rfl⟩
   have hdone:=(show KMid w.heap.size wr Y F c start c.parts.length from by rw [<-HN.out];exact HM.out).done (W':=w4) (pb:=pb) (lo:=wr.heap.size) (hi:=w3.heap.size) HSZ.out (Nat.le_refl _)
    (fun j q1 q2=>by rw [hw4,Below.heap_setCell _ _ _ _ (by rw [<-HY.out.1];exact q2),hb.block j q1])
    (HP.out.same (fun j q=>by
     have hl:=lt_of_block HKC.out
     have hne:j≠kb:=by have:=q.1;omega
     rw [hw4,Below.heap_setCell _ _ _ _ hne]))
    (by
     have h4:=blk_set hk3 15 (.pointer (some ⟨pb,0,none⟩))
     rw [HY.out.1,hw4,h4]
     rfl)
   obtain ⟨G,g1,g2⟩:=hdone
   have HG:=Lib.hid (And.intro g1 g2)
   have HB4:=Lib.hid (show Below w.heap.size w w4 by
    have hg:=set_grown w3 kb 15 (.pointer (some ⟨pb,0,none⟩))
    rw [<-hw4] at hg
    have hl:=HM.out.low .kern _ ((HM.out.kern _).2 rfl)
    rw [HY.out.1] at hl
    exact bput (HB.out.trans (hb.mono HSZ.out)) hg hl (Nat.le_refl _))
   clear hp hp1 hp2 hp3 hb hk3 g1 g2
   clear kc9 kc10 kc11 kc12 kc13
   go_wp2_with (first | (rw [<-hw4];clear hw4 kd15 f3) | fail)
   go_ret2
   exact ⟨fun q=>absurd rfl q,fun _ q=>(by cases q),fun _ _=>⟨_,G,by show _=Ending.returned (.tuple #[.pointer (some ⟨Y.kb,0,none⟩),.int .i64 0]);rw [HY.out.1];rfl,HG.out.1,HG.out.2⟩,HB4.out⟩
end Go.Proofs.YtooeeiiiflfckaaGreat
