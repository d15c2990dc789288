/- Chapter 22's laws: one, a configuration of a lone high part and a low one. -/
import Derived.Test.YtooeeiiiflfckaaGreatLaw22a
import Derived.Test.YtooeeiiiflfckaaGreatLawC
import Derived.Test.YtooeeiiiflfckaaGreatOneP
set_option linter.unusedVariables false
set_option linter.unusedSimpArgs false
namespace Go.Proofs.YtooeeiiiflfckaaGreat
open Go.RowKit
theorem LawAt.blocks {w0 W W':World} {ks:List KH} {bx nb:List (Nat × Obj)} {rs:List RH} (h:LawAt w0 W ks bx rs) (hb:Below W.heap.size W W') (hn:∀ p∈nb,W.heap.size<=p.1/\W'.heap[p.1]?=some p.2) (hd:nb.Pairwise (fun a b=>a.1≠b.1)):LawAt w0 W' ks (nb ++ bx) rs:=by
 have h2:=h.grow hb
 refine ⟨h2.kat,h2.ok,h2.low,h2.dis,h2.below,fun p hp=>?_,h2.row,h2.apart,fun p hp r hr e=>?_,?_⟩
 ·rcases List.mem_append.1 hp with hp | hp
  ·exact ⟨(hn p hp).2,Nat.le_trans h.below.size (hn p hp).1,h.fresh (hn p hp).1⟩
  ·exact h2.box p hp
 ·rcases List.mem_append.1 hp with hp | hp
  ·have:=((h.row r hr).1.lt _ e).2
   have:=(hn p hp).1
   omega
  ·exact h.off p hp r hr e
 ·rw [List.pairwise_append]
  refine ⟨hd,h2.two,fun a ha b hbm e=>?_⟩
  have:=lt_of_block (h.box b hbm).1
  have:=(hn a ha).1
  omega
theorem LawAt.perm {w0 W:World} {ks:List KH} {bx bx':List (Nat × Obj)} {rs:List RH} (h:LawAt w0 W ks bx rs) (hp:bx'.Perm bx):LawAt w0 W ks bx' rs :=
 ⟨h.kat,h.ok,h.low,h.dis,h.below,fun p q=>h.box p (hp.subset q),h.row,h.apart,fun p q r hr=>h.off p (hp.subset q) r hr,(hp.pairwise_iff (fun h=>Ne.symm h)).2 h.two⟩
def oneT (per dl lo hi:Int):Obj:=.cells #[.int .i64 1,.int .i64 per,.int .i64 dl,.int .i64 lo,.int .i64 hi,.int .i64 0] 51 (0,0)
def oneL:Obj:=.cells #[.int .i64 0,.int .i64 1,.int .i64 1,.int .i64 1,.int .i64 1,.int .i64 0] 51 (0,0)
def oneP (g1 g2:Nat):Obj:=.cells #[.int .i64 1,.slice (some ⟨g1,0,none⟩) 1 1,.slice none 0 0,.int .i64 0,.slice (some ⟨g2,0,none⟩) 1 1,.slice none 0 0] 49 (0,0)
def oneW (f:Int):Obj:=.cells #[.int .i64 0,.int .i64 (f - 1),.int .i64 0,.int .i64 (f - 1),.int .i64 f,.int .i64 1] 61 (0,0)
theorem one_cfg {W:World} {g1 g2 g3 g4:Nat} {f q lo hi per dl:Int} (h1:W.heap[g1]?=some (oneT per dl lo hi)) (h2:W.heap[g2]?=some oneL) (h3:W.heap[g3]?=some (oneP g1 g2)) (h4:W.heap[g4]?=some (oneW f)) :
  CfgV W (.agg #[.int .i64 f,.int .i64 q,.slice (some ⟨g3,0,none⟩) 2 2,.slice (some ⟨g4,0,none⟩) 2 2,.slice none 0 0]) (oneCfg f q lo hi per dl) :=
 ⟨_,_,_,rfl,⟨slice2 (by decide) (part_blk h3 0 ⟨1,[⟨1,per,dl,lo,hi,0⟩],[]⟩ rfl rfl rfl (tasks_blk [⟨1,per,dl,lo,hi,0⟩] h1 (by simp)) (slice0 _ _ _ _)) (part_blk h3 3 ⟨0,[⟨0,1,1,1,1,0⟩],[]⟩ rfl rfl rfl (tasks_blk [⟨0,1,1,1,1,0⟩] h2 (by simp)) (slice0 _ _ _ _)),windows_blk [⟨0,f - 1,0⟩,⟨f - 1,f,1⟩] h4 (by simp),slice0 _ _ _ _⟩⟩
set_option maxRecDepth 100000 in
set_option maxHeartbeats 4000000 in
theorem one_any (f q lo hi:Int) (w:World) (hf:IntKind.i64.wrap (f - 1)=f - 1) :
  Calls Tryz.prog 26 #[.int .i64 f,.int .i64 q,.int .i64 lo,.int .i64 hi] w fun e w'=>∃ g1 g2 g3 g4,e=.returned (.agg #[.int .i64 f,.int .i64 q,.slice (some ⟨g3,0,none⟩) 2 2,.slice (some ⟨g4,0,none⟩) 2 2,.slice none 0 0])/\w'.heap[g1]?=some (oneT 12 12 lo hi)/\w'.heap[g2]?=some oneL/\w'.heap[g3]?=some (oneP g1 g2)/\w'.heap[g4]?=some (oneW f)/\(w.heap.size<=g1/\g1 < g2/\g2 < g3/\g3 < g4)/\Below w.heap.size w w':=by
 go_enter Tryz.func26,Tryz.ntmps26
 go_wp2_with fail
 refine bodyPost_ret (v:=.agg #[.int .i64 f,.int .i64 q,.slice (some ⟨w.heap.size+1+1+1,0,none⟩) 2 2,.slice (some ⟨w.heap.size+1+1+1+1,0,none⟩) 2 2,.slice none 0 0]) (by simp [results,Tryz.results26,go_sem]) rfl ⟨w.heap.size+1,w.heap.size+1+1,w.heap.size+1+1+1,w.heap.size+1+1+1+1,rfl,?_,?_,?_,?_,by omega,?_⟩
 ·unfold oneT;simp only [heap_push,Array.getElem?_push,Array.size_push];simp
 ·unfold oneL;simp only [heap_push,Array.getElem?_push,Array.size_push];simp
 ·unfold oneP;simp only [heap_push,Array.getElem?_push,Array.size_push];simp
 ·unfold oneW;simp only [heap_push,Array.getElem?_push,Array.size_push];simp
 ·repeat (first | exact Below.refl _ _ | refine Below.alloc ?_ (by simp <;> omega) _)
end Go.Proofs.YtooeeiiiflfckaaGreat
