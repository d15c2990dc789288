/- Configurations that a law lays out itself: their pieces in blocks. -/
import Derived.Test.YtooeeiiiflfckaaGreatLawK
set_option linter.unusedVariables false
set_option linter.unusedSimpArgs false
namespace Go.Proofs.YtooeeiiiflfckaaGreat
open Go.RowKit
section
variable {W:World} {g:Nat}
theorem tasks_blk (xs:List Task) (h:W.heap[g]?=some (.cells (xs.flatMap taskCells).toArray 51 (0,0))) (hn:xs.length<=1000000):TasksV W (.slice (some ⟨g,0,none⟩) xs.length xs.length) xs :=
 flatTask.slice (own_blk h (by rw [flat_len _ _ flatTask.len]) (by unfold maxLen;omega)) (by omega)
theorem windows_blk (xs:List Window) (h:W.heap[g]?=some (.cells (xs.flatMap windowCells).toArray 61 (0,0))) (hn:xs.length<=1000000):WindowsV W (.slice (some ⟨g,0,none⟩) xs.length xs.length) xs :=
 flatWindow.slice (own_blk h (by rw [flat_len _ _ flatWindow.len]) (by unfold maxLen;omega)) (by omega)
theorem part_blk {cs:Array Value} {t:TypeId} (h:W.heap[g]?=some (.cells cs t (0,0))) (o:Nat) {tv cv:Value} (x:Part) (h0:cs[o]?=some (.int .i64 x.level)) (h1:cs[o+1]?=some tv) (h2:cs[o+2]?=some cv) (ht:TasksV W tv x.tasks) (hc:CodeV W cv x.code):PartAt W g o x :=
 ⟨BlockIs.of h _ _ h0,tv,cv,BlockIs.of h _ _ h1,BlockIs.of h _ _ h2,⟨ht,hc⟩⟩
end
theorem LawAt.box0 {w0 W:World} {ks:List KH} {g:Nat} {o:Obj} {bx:List (Nat × Obj)} {rs:List RH} (h:LawAt w0 W ks ((g,o)::bx) rs):W.heap[g]?=some o:=(h.box _ (List.mem_cons_self ..)).1
theorem LawAt.row0 {w0 W:World} {ks:List KH} {bx:List (Nat × Obj)} {e:TypeId} {size n:Nat} {v:Value} {xs:List Value} {rs:List RH} (h:LawAt w0 W ks bx (⟨e,size,v,n,xs⟩::rs)):W.ownsRow w0.heap.size e size v n xs:=(h.row _ (List.mem_cons_self ..)).1
theorem LawAt.onto {w0 W W':World} {ks:List KH} {bx:List (Nat × Obj)} {rs:List RH} {r:RH} (h:LawAt w0 W ks bx (r::rs)) {o:Obj} {v':Value} {n':Nat} {xs':List Value}
  (hrow:W'.ownsRow w0.heap.size r.e r.size v' n' xs') (hg:(W.alloc o).grownBy W' r.v.ownBlock) (hat:v'.ownBlock=r.v.ownBlock∨v'.ownBlock=some (W.heap.size+1)):LawAt w0 W' ks bx (⟨r.e,r.size,v',n',xs'⟩::rs):=by
 have h1:=h.row r (List.mem_cons_self ..)
 have ba:=balloc W o
 have sa:(W.alloc o).heap.size=W.heap.size+1:=by simp
 have hk:∀ k,k < W.heap.size->r.v.ownBlock≠some k->W'.heap[k]?=W.heap[k]?:=fun k q q2=>(hg.block k (by omega) (fun e=>q2 e.symm)).trans (ba.block k q)
 have hap:=h.apart
 rw [List.pairwise_cons] at hap
 have hbx:∀ p∈bx,r.v.ownBlock≠some p.1:=fun p hp=>h.off p hp r (List.mem_cons_self ..)
 have hbel:Below w0.heap.size W W':=(ba.mono h.below.size).grown hg (Nat.le_trans h.below.size (by omega)) (fun g q=>(h1.1.lt g q).1)
 refine ⟨fun k q=>(h.kat k q).far (fun j hj=>hk j ((h.kat k q).lt hj) (fun e=>h1.2 k q j e hj)),h.ok,h.low,h.dis,?_,fun p hp=>?_,fun q hq=>?_,?_,fun p hp q hq e=>?_,h.two⟩
 ·exact ⟨hbel.os.trans h.below.os,hbel.tape.trans h.below.tape,hbel.output.trans h.below.output,Nat.le_trans h.below.size hbel.size,fun j hj=>(hbel.block j hj).trans (h.below.block j hj)⟩
 ·obtain ⟨a1,a2,a3⟩:=h.box p hp
  exact ⟨(hk p.1 (lt_of_block a1) (hbx p hp)).trans a1,a2,a3⟩
 ·rcases List.mem_cons.1 hq with rfl | hq
  ·refine ⟨hrow,fun k q g hg2 hG=>?_⟩
   simp only at hg2
   rcases hat with e | e
   ·exact h1.2 k q g (e ▸ hg2) hG
   ·rw [e] at hg2
    injection hg2 with hg2
    have:=(h.kat k q).lt hG
    omega
  ·have h2:=h.row q (List.mem_cons_of_mem _ hq)
   refine ⟨own_two (Below.kept h2.1 ba) (m:=r.v) (fun g a1 a2=>hap.1 q hq g a2 a1) hg,h2.2⟩
 ·rw [List.pairwise_cons]
  refine ⟨fun b hb g a1 a2=>?_,hap.2⟩
  simp only at a1
  rcases hat with e | e
  ·exact hap.1 b hb g (e ▸ a1) a2
  ·rw [e] at a1
   injection a1 with a1
   have:=((h.row b (List.mem_cons_of_mem _ hb)).1.lt g a2).2
   omega
 ·rcases List.mem_cons.1 hq with rfl | hq
  ·simp only at e
   rcases hat with e2 | e2
   ·exact hbx p hp (e2 ▸ e)
   ·rw [e2] at e
    injection e with e
    have:=lt_of_block (h.box p hp).1
    omega
  ·exact h.off p hp q (List.mem_cons_of_mem _ hq) e
theorem LawAt.rot {w0 W:World} {ks:List KH} {bx:List (Nat × Obj)} {a b:RH} {rs:List RH} (h:LawAt w0 W ks bx (a::b::rs)):LawAt w0 W ks bx (b::a::rs):=by
 have hm:∀ r,r∈b::a::rs->r∈a::b::rs:=fun r q=>by
  simp only [List.mem_cons] at q |-
  rcases q with q | q | q
  ·exact .inr (.inl q)
  ·exact .inl q
  ·exact .inr (.inr q)
 refine ⟨h.kat,h.ok,h.low,h.dis,h.below,h.box,fun r q=>h.row r (hm r q),?_,fun p hp r q=>h.off p hp r (hm r q),h.two⟩
 have hd:=h.apart
 simp only [List.pairwise_cons,List.mem_cons,forall_eq_or_imp] at hd |-
 exact ⟨⟨fun g a1 a2=>hd.1.1 g a2 a1,hd.2.1⟩,hd.1.2,hd.2.2⟩
theorem infoEntry:(Tryz.prog.info? 38).map (fun i=>(i.zero,i.size,i.bytes))=some (some (.agg #[.int .i64 0,.int .i64 0,.int .i64 0,.int .i64 0,.int .i64 0]),5,40):=by kernel_rfl
theorem i64_and65535 (x:Int):bits .and .i64 x 65535=x % 65536:=by simpa using i64_mask 16 (by decide) x
theorem clockYes {x:Int} (h:0<=x) (h2:x<=1099511627776):clockB x=true:=by unfold clockB;exact decide_eq_true ⟨h,h2⟩
theorem tickK_ev_le {K:KSt} {m:Int} (h:KOk K m) (es:List Entry):(tickK K es).2.events.length<=5000:=by
 by_cases he:tickE K es=0
 ·obtain ⟨A,B,O,D,hA,hB,hO,hD,hT⟩:=tickK_go he
  have h0:=boundK_le K
  have h1:=entersK_le es (boundK K).1
  have hl:=(tickE_zero he).2
  have g1:=entersK_ok es (boundK_ok h)
  rw [<-hA] at h1 g1
  have h2:=beginsK_le g1 A.1.seats.length (Nat.le_refl _)
  have h8:=g1.seats8
  rw [<-hB] at h2
  have h3:D.2.length<=6:=by
   rw [hD]
   split
   ·exact stepK_le _ _
   ·simp
  rw [hT]
  simp only [List.length_append]
  omega
 ·rw [tickK_no he]
  simp
theorem tick_ev_len {K Kn:KSt} {m:Int} {es:List Entry} {r:KRow} (h:(Kn,r)=tickK K es) (hk:KOk K m):r.events.length*32<=140737488351232:=by
 have hr:r=(tickK K es).2:=by rw [<-h]
 have:=tickK_ev_le hk es
 rw [hr]
 omega
end Go.Proofs.YtooeeiiiflfckaaGreat
