/- Chapter 22's law KernelNoops (printed by gen22f.py). -/
import Derived.Test.YtooeeiiiflfckaaGreatLaw22a
import Derived.Test.YtooeeiiiflfckaaGreatLawC
import Derived.Test.YtooeeiiiflfckaaGreatNoopP
set_option linter.unusedVariables false
set_option linter.unusedSimpArgs false
namespace Go.Proofs.YtooeeiiiflfckaaGreat
open Go.RowKit
theorem i64_and15 (x:Int):bits .and .i64 x 15=x % 16:=by simpa using i64_mask 4 (by decide) x
theorem i64_and63 (x:Int):bits .and .i64 x 63=x % 64:=by simpa using i64_mask 6 (by decide) x
theorem nY_succ {es bad:List Entry} {i j:Nat} (h:j < es.length) {ms:List Entry} (hm:nMore bad i j=ms):nY es bad i (j+1)=nY es bad i j ++ nV es[j]::ms:=by
 rw [<-hm]
 show nY es bad i j ++ (match es[j]? with | some e=>nV e::nMore bad i j | none=>[])=_
 rw [List.getElem?_eq_getElem h]
def e513:List Entry:=List.replicate 513 ⟨0,0,0,0,0⟩
theorem made513 (w:World) (base:Nat) (hb:base<=w.heap.size):∃ w',(Instr.makeSlice 27 (.int .i64 513) (.int .i64 513)).run Tryz.prog w=.ok (.slice (some ⟨w.heap.size,0,none⟩) 513 513) w'/\w'.ownsRow base 38 5 (.slice (some ⟨w.heap.size,0,none⟩) 513 513) 513 (e513.flatMap entCells)/\w.grownBy w' none:=by
 obtain ⟨i,h1,h2,h3,h4⟩:=info_parts infoEntry
 obtain ⟨w',q1,q2,q3⟩:=run_makeSlice_full (P:=Tryz.prog) w base 27 38 i _ 5 Tryz.underlying27 h1 h2 h3 .i64 .i64 513 (by decide) (by rw [h4];decide) (by decide) hb
 refine ⟨w',q1,?_,q3⟩
 have e1:(madeCells (Value.agg #[.int .i64 0,.int .i64 0,.int .i64 0,.int .i64 0,.int .i64 0]).cells (513*5)).toList=List.replicate 2565 (.int .i64 0):=by
  rw [List.eq_replicate_iff]
  refine ⟨by rw [Array.length_toList,size_madeCells],fun b hb=>?_⟩
  unfold madeCells at hb
  rw [Array.mem_toList_iff,Array.mem_map] at hb
  obtain ⟨i,-,rfl⟩:=hb
  show (#[.int .i64 0,.int .i64 0,.int .i64 0,.int .i64 0,.int .i64 0]:Array Value)[i % 5]! = _
  have:i % 5=0∨i % 5=1∨i % 5=2∨i % 5=3∨i % 5=4:=by omega
  rcases this with h | h | h | h | h <;> rw [h] <;> rfl
 have e2:e513.flatMap entCells=List.replicate 2565 (.int .i64 0):=by
  rw [List.eq_replicate_iff]
  refine ⟨by rw [flat_len entCells 5 (fun _=>rfl)];unfold e513;rw [List.length_replicate],fun b hb=>?_⟩
  obtain ⟨e,he,hb⟩:=List.mem_flatMap.1 hb
  unfold e513 at he
  rw [List.eq_of_mem_replicate he] at hb
  simpa [entCells] using hb
 have this:=e1.trans e2.symm
 rw [<-this]
 exact q2
theorem entries513 {w':World} {base:Nat} {v:Value} (h:w'.ownsRow base 38 5 v 513 (e513.flatMap entCells)):EntriesV w' v e513:=flatEntry.slice (by unfold e513 at h |-;rw [List.length_replicate];exact h) (by unfold e513;rw [List.length_replicate];decide)
set_option maxRecDepth 100000 in
set_option maxHeartbeats 16000000 in
theorem kernelNoops_any (es:List Entry) (v:Value) (bad:List Entry) (u:Value) (many:Int) (w:World) (hv:EntriesV w v es) (hu:EntriesV w u bad):Calls Tryz.prog 5 #[v,u,.int .i64 many] w fun e w'=>e=.returned (.bool true)/\Below w.heap.size w w':=by
 have HV:=Lib.hid hv
 obtain ⟨va,vc,rfl,hz1,hz2,hz3,-⟩:=id hv
 obtain ⟨n,hn⟩:∃ n,n=es.length:=⟨_,rfl⟩
 rw [<-hn] at HV |-
 have hnb:n<=1000000000000000000:=by omega
 have HN:=Lib.hid hn
 have HVB:=Lib.hid hu
 obtain ⟨ua,uc,rfl,hb1,hb2,hb3,-⟩:=id hu
 obtain ⟨nb,hnb2⟩:∃ nb,nb=bad.length:=⟨_,rfl⟩
 rw [<-hnb2] at HVB |-
 have hnb3:nb<=1000000000000000000:=by omega
 have HNB:=Lib.hid hnb2
 obtain ⟨mq,hmq⟩:=Int.eq_ofNat_of_zero_le (show 0<=bits BinOp.and IntKind.i64 many 15 by rw [i64_and15];omega)
 clear hv hz1 hz2 hz3 hn hu hb1 hb2 hb3 hnb2
 have HL:=Lib.hid (LawAt.start w)
 go_enter Tryz.func5,Tryz.ntmps5
 go_wp2_with (go_at_call 17;refine num_at ?_)
 refine (awake22 _).mono ?_
 rintro e w1 ⟨rfl,hb⟩
 replace HL:=Lib.hid (HL.out.grow hb)
 clear hb
 go_wp2_with (go_at_call 17;refine num_at ?_)
 refine (plain22_any _).mono ?_
 rintro e w2 ⟨v1,rfl,hc,hb⟩
 have HC:=Lib.hid hc
 replace HL:=Lib.hid (HL.out.grow hb)
 clear hc hb
 go_wp2_with (go_at_call 17;refine num_at ?_)
 refine (HL.out.callNew plainCfg _ 3 HC.out plain_admit (by decide)).mono ?_
 rintro e w3 ⟨Ya,Ga,rfl,hl⟩
 replace HL:=Lib.hid (hl)
 clear hl HC
 go_wp2_with (go_at_call 17;refine num_at ?_)
 refine (plain22_any _).mono ?_
 rintro e w4 ⟨v1,rfl,hc,hb⟩
 have HC:=Lib.hid hc
 replace HL:=Lib.hid (HL.out.grow hb)
 clear hc hb
 go_wp2_with (go_at_call 17;refine num_at ?_)
 refine (HL.out.callNew plainCfg _ 3 HC.out plain_admit (by decide)).mono ?_
 rintro e w5 ⟨Yb,Gb,rfl,hl⟩
 replace HL:=Lib.hid (hl.swap)
 clear hl HC
 go_wp2_with (go_at_call 17;refine num_at ?_)
 go_loopw [11] (fun iv wr=>∃ (i:Nat) (Ga Gb:Nat->Prop) (m:Int),i<=60/\m<=96*i/\iv=.int .i64 i/\Hid (LawAt w wr [⟨Ya,nK es i,Ga,48*(i:Int)⟩,⟨Yb,nK es i,Gb,m⟩] [] [])) (fun iv _=>60 - (intOf iv).toNat)
 case atStart=>exact ⟨0,Ga,Gb,0,by omega,by omega,rfl,HL⟩
 case round =>
  clear HL
  obtain ⟨i,Ga,Gb,m,hi,hm,rfl,HL⟩:=hrel
  by_cases hi2:i < 60
  ·skip
   have hik:(i:Int) < 60:=by omega
   obtain ⟨f1,f2,f3⟩:=nK_tick es bad hi2
   have HF:=Lib.hid (And.intro f1 (And.intro f2 f3))
   clear f1 f2 f3
   have t1:IntKind.i64.wrap (3+(i:Int))=3+(i:Int):=by rw [IntKind.wrap_i64];omega
   have t2:IntKind.i64.wrap (2+(i:Int))=2+(i:Int):=by rw [IntKind.wrap_i64];omega
   go_wp2_with (go_at_call 17;refine num_at ?_)
   go_loopw [12,13,14] (fun xv yv jv wr=>∃ (j:Nat) (xa:Option Addr) (xc:Nat) (ya:Option Addr) (yl yc:Nat),j<=n/\j<=30/\jv=.int .i64 j/\xv=.slice xa j xc/\yv=.slice ya yl yc/\yl=(nY es bad i j).length/\Hid (LawAt w wr [⟨Ya,nK es i,Ga,48*(i:Int)⟩,⟨Yb,nK es i,Gb,m⟩] [] [⟨38,5,.slice xa j xc,j,(nX es j).flatMap entCells⟩,⟨38,5,.slice ya yl yc,yl,(nY es bad i j).flatMap entCells⟩])) (fun _ _ jv _=>n - (intOf jv).toNat)
   case atStart=>exact ⟨0,none,0,none,0,0,by omega,by omega,rfl,rfl,rfl,rfl,Lib.hid ((HL.out.nilRow 38 5).nilRow 38 5)⟩
   case round =>
    clear HL
    obtain ⟨j,xa,xc,ya,yl,yc,hj,hj40,rfl,rfl,rfl,hyl,HL⟩:=hrel
    have hyl2:yl<=5*j:=by rw [hyl];exact nY_len es bad i j
    have HYQ:=Lib.hid hyl
    clear hyl
    by_cases hgo:j < n/\j < 30
    ·skip
     have c1:(j:Int) < (n:Int):=by omega
     have c2:(j:Int) < 30:=by omega
     have c1n:j < n:=hgo.1
     have hxl:j < es.length:=by rw [<-HN.out];exact hgo.1
     have HSX:=Lib.hid (nX_succ hxl)
     obtain ⟨⟨xat,xkd,xpt,xtk,xvl⟩,hx⟩:∃ x,x=es[j]:=⟨_,rfl⟩
     obtain ⟨xb,xo,hea,y0,y1,y2,y3,y4⟩:∃ eb eo,Value.slice va n vc=.slice (some ⟨eb,eo,none⟩) n vc/\EntryAt w eb (eo+j*5) ⟨xat,xkd,xpt,xtk,xvl⟩:=by
      obtain ⟨a,cap,e,-,-,-,h4⟩:=HV.out
      obtain ⟨b,off,ea,hce⟩:=h4 (by intro q;rw [q] at hxl;simp at hxl)
      subst ea
      injection e with e1 e2 e3
      subst e1
      subst e3
      exact ⟨b,off,rfl,by rw [hx];exact hce j hxl⟩
     injection hea with hea
     subst hea
     have hxt:=Ext.below HL.out.below
     replace y0:=hxt _ _ y0
     replace y1:=hxt _ _ y1
     replace y2:=hxt _ _ y2
     replace y3:=hxt _ _ y3
     replace y4:=hxt _ _ y4
     simp only at y0 y1 y2 y3 y4
     clear hxt
     obtain ⟨z,hz⟩:=Int.eq_ofNat_of_zero_le (show 0<=bits BinOp.and IntKind.i64 xat 63 by rw [i64_and63];omega)
     have hz1:z<=63:=by have:=i64_and63 xat;omega
     have t3:IntKind.i64.wrap (3+(z:Int))=3+(z:Int):=by rw [IntKind.wrap_i64];omega
     have HZ:=Lib.hid (show nV es[j]=⟨3+(z:Int),xkd,xpt,xtk,xvl⟩ by rw [<-hx];unfold nV;simp only;rw [<-hz,i64_and63])
     clear hx
     obtain ⟨w31,g31,hw_w31,hg_g31,hb_w31,hk_g31,hs_w31⟩:=alloc_all wr (.cells #[.int .i64 (3+(z:Int)),.int .i64 xkd,.int .i64 xpt,.int .i64 xtk,.int .i64 xvl] 38)
     replace HL:=Lib.hid (HL.out.alloc hb_w31 (by omega) hk_g31)
     clear hb_w31 hk_g31
     go_upto_region 16 with (fail)
     rw [<-hw_w31]
     (try rw [<-hs_w31])
     (try rw [<-hg_g31])
     clear hw_w31 hg_g31 hs_w31
     clear y0 y1 y2 y3 y4
     have b0:=BlockIs.of HL.out.box0 0 (.int .i64 (3+(z:Int))) rfl
     have b1:=BlockIs.of HL.out.box0 1 (.int .i64 (xkd)) rfl
     have b2:=BlockIs.of HL.out.box0 2 (.int .i64 (xpt)) rfl
     have b3:=BlockIs.of HL.out.box0 3 (.int .i64 (xtk)) rfl
     have b4:=BlockIs.of HL.out.box0 4 (.int .i64 (xvl)) rfl
     go_wp2_with (first | (go_at_call 17;refine num_at ?_) | (at_builtin;refine append_elem_at rfl (.tmp 74) (.tmp 76) 27 rfl w.heap.size 38 _ 5 40 Tryz.underlying27 infoEntry rfl (by decide) (.slice xa j xc) j _ rfl HL.out.row0 (entCells ⟨3+(z:Int),xkd,xpt,xtk,xvl⟩) w31.heap.size rfl rfl rfl rfl (by omega) (by omega) HL.out.below.size ?_))
     intro v2 w2 hown hbel hg hat
     replace HL:=Lib.hid (HL.out.onto hown hg (by simpa using hat))
     obtain ⟨xa2,xc2,rfl⟩:=own_shape hown
     replace HL:=Lib.hid HL.out.rot
     clear hown hbel hg hat b0 b1 b2 b3 b4
     have b0:=BlockIs.of HL.out.box0 0 (.int .i64 (3+(z:Int))) rfl
     have b1:=BlockIs.of HL.out.box0 1 (.int .i64 (xkd)) rfl
     have b2:=BlockIs.of HL.out.box0 2 (.int .i64 (xpt)) rfl
     have b3:=BlockIs.of HL.out.box0 3 (.int .i64 (xtk)) rfl
     have b4:=BlockIs.of HL.out.box0 4 (.int .i64 (xvl)) rfl
     go_wp2_with (first | (go_at_call 17;refine num_at ?_) | (at_builtin;refine append_elem_at rfl (.tmp 78) (.tmp 80) 27 rfl w.heap.size 38 _ 5 40 Tryz.underlying27 infoEntry rfl (by decide) (.slice ya yl yc) yl _ rfl HL.out.row0 (entCells ⟨3+(z:Int),xkd,xpt,xtk,xvl⟩) w2.heap.size rfl rfl rfl rfl (by omega) (by omega) HL.out.below.size ?_))
     intro v3 w3 hown hbel hg hat
     replace HL:=Lib.hid (HL.out.onto hown hg (by simpa using hat))
     obtain ⟨ya2,yc2,rfl⟩:=own_shape hown
     replace HL:=Lib.hid HL.out.nobox
     clear hown hbel hg hat b0 b1 b2 b3 b4
     by_cases hjb:j < nb
     ·skip
      have k1:(j:Int) < (nb:Int):=by omega
      have hbl:j < bad.length:=by rw [<-HNB.out];exact hjb
      obtain ⟨⟨pat,pkd,ppt,ptk,pvl⟩,hx⟩:∃ x,x=bad[j]:=⟨_,rfl⟩
      obtain ⟨pb,po,hea,y0,y1,y2,y3,y4⟩:∃ eb eo,Value.slice ua nb uc=.slice (some ⟨eb,eo,none⟩) nb uc/\EntryAt w eb (eo+j*5) ⟨pat,pkd,ppt,ptk,pvl⟩:=by
       obtain ⟨a,cap,e,-,-,-,h4⟩:=HVB.out
       obtain ⟨b,off,ea,hce⟩:=h4 (by intro q;rw [q] at hbl;simp at hbl)
       subst ea
       injection e with e1 e2 e3
       subst e1
       subst e3
       exact ⟨b,off,rfl,by rw [hx];exact hce j hbl⟩
      injection hea with hea
      subst hea
      have hxt:=Ext.below HL.out.below
      replace y0:=hxt _ _ y0
      replace y1:=hxt _ _ y1
      replace y2:=hxt _ _ y2
      replace y3:=hxt _ _ y3
      replace y4:=hxt _ _ y4
      simp only at y0 y1 y2 y3 y4
      clear hxt
      obtain ⟨k7,hk7⟩:=Int.eq_ofNat_of_zero_le (show 0<=bits BinOp.and IntKind.i64 pkd 7 by rw [i64_and7];omega)
      have hk71:k7<=7:=by have:=i64_and7 pkd;omega
      have t4:IntKind.i64.wrap (2+(k7:Int))=2+(k7:Int):=by rw [IntKind.wrap_i64];omega
      obtain ⟨p7,hp7⟩:=Int.eq_ofNat_of_zero_le (show 0<=bits BinOp.and IntKind.i64 ppt 7 by rw [i64_and7];omega)
      have hp71:p7<=7:=by have:=i64_and7 ppt;omega
      have t5:IntKind.i64.wrap (2+(p7:Int))=2+(p7:Int):=by rw [IntKind.wrap_i64];omega
      have HBD:=Lib.hid (show nBad i bad[j]=[⟨3+(i:Int),2+(k7:Int),ppt,ptk,pvl⟩,⟨2+(i:Int),0,1,0,1⟩,⟨3+(i:Int),0,2+(p7:Int),0,1⟩,⟨3+(i:Int),0,0,1,1⟩] by rw [<-hx];unfold nBad;simp only;rw [<-hk7,<-hp7,i64_and7,i64_and7])
      clear hx
      obtain ⟨w41,g41,hw_w41,hg_g41,hb_w41,hk_g41,hs_w41⟩:=alloc_all w3 (.cells #[.int .i64 (3+(i:Int)),.int .i64 (2+(k7:Int)),.int .i64 (ppt),.int .i64 (ptk),.int .i64 (pvl)] 38)
      replace HL:=Lib.hid (HL.out.alloc hb_w41 (by omega) hk_g41)
      clear hb_w41 hk_g41
      go_upto_region 22 with (fail)
      rw [<-hw_w41]
      (try rw [<-hs_w41])
      (try rw [<-hg_g41])
      clear hw_w41 hg_g41 hs_w41
      clear y0 y1 y2 y3 y4
      have b0:=BlockIs.of HL.out.box0 0 (.int .i64 (3+(i:Int))) rfl
      have b1:=BlockIs.of HL.out.box0 1 (.int .i64 (2+(k7:Int))) rfl
      have b2:=BlockIs.of HL.out.box0 2 (.int .i64 (ppt)) rfl
      have b3:=BlockIs.of HL.out.box0 3 (.int .i64 (ptk)) rfl
      have b4:=BlockIs.of HL.out.box0 4 (.int .i64 (pvl)) rfl
      have HSRC:=Lib.hid (own_src (own_blk (size:=5) (n:=4) (e:=38) (xs:=([⟨3+(i:Int),2+(k7:Int),ppt,ptk,pvl⟩,⟨2+(i:Int),0,1,0,1⟩,⟨3+(i:Int),0,2+(p7:Int),0,1⟩,⟨3+(i:Int),0,0,1,1⟩]:List Entry).flatMap entCells) (blk_new w41 (.cells (([⟨3+(i:Int),2+(k7:Int),ppt,ptk,pvl⟩,⟨2+(i:Int),0,1,0,1⟩,⟨3+(i:Int),0,2+(p7:Int),0,1⟩,⟨3+(i:Int),0,0,1,1⟩]:List Entry).flatMap entCells).toArray 38)) rfl (by decide)))
      have HRW:=Lib.hid (Below.kept HL.out.row0 (balloc w41 (.cells (([⟨3+(i:Int),2+(k7:Int),ppt,ptk,pvl⟩,⟨2+(i:Int),0,1,0,1⟩,⟨3+(i:Int),0,2+(p7:Int),0,1⟩,⟨3+(i:Int),0,0,1,1⟩]:List Entry).flatMap entCells).toArray 38)))
      go_wp2_with (first | (go_at_call 17;refine num_at ?_) | (at_builtin;refine wpList_onto_at rfl (.tmp 98) (.tmp 113) 27 rfl w.heap.size 38 _ 5 40 Tryz.underlying27 infoEntry rfl (by decide) (.slice ya2 (yl+1) yc2) (yl+1) _ rfl HRW.out (.slice (some ⟨w41.heap.size,0,none⟩) 4 4) rfl 4 _ HSRC.out rfl (fun u hu=>flat_one flatEntry _ u hu) (by simp only [maxLen];omega) (by omega) (Nat.le_trans HL.out.below.size (balloc _ _).size) ?_))
      intro v5 w5 hown hg hat
      replace HL:=Lib.hid ((HL.out.onto hown hg (by simpa using hat)).nobox)
      obtain ⟨ya3,yc3,rfl⟩:=own_shape hown
      clear hown hg hat b0 b1 b2 b3 b4 HSRC HRW
      have HY2:=Lib.hid (show nY es bad i (j+1)=nY es bad i j ++ ⟨3+(z:Int),xkd,xpt,xtk,xvl⟩::[⟨3+(i:Int),2+(k7:Int),ppt,ptk,pvl⟩,⟨2+(i:Int),0,1,0,1⟩,⟨3+(i:Int),0,2+(p7:Int),0,1⟩,⟨3+(i:Int),0,0,1,1⟩] by rw [<-HZ.out];exact nY_succ hxl (by unfold nMore;rw [List.getElem?_eq_getElem hbl];exact HBD.out))
      have HL4:Hid (LawAt w w5 [⟨Ya,nK es i,Ga,48*(i:Int)⟩,⟨Yb,nK es i,Gb,m⟩] [] [⟨38,5,.slice xa2 (j+1) xc2,j+1,(nX es (j+1)).flatMap entCells⟩,⟨38,5,.slice ya3 (yl+1+4) yc3,yl+1+4,(nY es bad i (j+1)).flatMap entCells⟩]):=Lib.hid (by
       have h:=HL.out.rot
       rw [HSX.out,HZ.out,HY2.out]
       simpa [entCells,nBad] using h)
      clear HL
      go_wp2_with (go_at_call 17;refine num_at ?_)
      go_roundw
      case rel=>exact ⟨j+1,xa2,xc2,ya3,yl+1+4,yc3,by omega,by omega,by go_num,rfl,rfl,by rw [HY2.out,HYQ.out];simp,HL4⟩
      case measure=>simp [intOf];omega
     ·skip
      have k1:¬ (j:Int) < (nb:Int):=by omega
      have HY2:=Lib.hid (show nY es bad i (j+1)=nY es bad i j ++ ⟨3+(z:Int),xkd,xpt,xtk,xvl⟩::[] by rw [<-HZ.out];exact nY_succ hxl (by unfold nMore;rw [List.getElem?_eq_none (by rw [<-HNB.out];omega)]))
      have HL4:Hid (LawAt w w3 [⟨Ya,nK es i,Ga,48*(i:Int)⟩,⟨Yb,nK es i,Gb,m⟩] [] [⟨38,5,.slice xa2 (j+1) xc2,j+1,(nX es (j+1)).flatMap entCells⟩,⟨38,5,.slice ya2 (yl+1) yc2,yl+1,(nY es bad i (j+1)).flatMap entCells⟩]):=Lib.hid (by
       have h:=HL.out.rot
       rw [HSX.out,HZ.out,HY2.out]
       simpa [entCells,nBad] using h)
      clear HL
      go_wp2_with (go_at_call 17;refine num_at ?_)
      go_roundw
      case rel=>exact ⟨j+1,xa2,xc2,ya2,yl+1,yc2,by omega,by omega,by go_num,rfl,rfl,by rw [HY2.out,HYQ.out];simp,HL4⟩
      case measure=>simp [intOf];omega
    ·have hst:¬ (j:Int) < (n:Int)∨(j:Int) < (n:Int)/\¬ (j:Int) < 30:=by omega
     rcases hst with c1 | ⟨c1,c2⟩
     all_goals
      have hjm:j=nM es:=by unfold nM;rw [<-HN.out];omega
      have HJM:=Lib.hid hjm
      have HJ:=Lib.hid (show j=(nX es (nM es)).length by rw [<-hjm];unfold nX;simp;have:=HN.out;omega)
      have HYL:=Lib.hid (show yl=(nY es bad i (nM es)).length by rw [<-hjm];exact HYQ.out)
      have HYB:=Lib.hid (show yl<=200 by omega)
      have hi15:bits BinOp.and IntKind.i64 (i:Int) 15=((i % 16:Nat):Int):=by rw [i64_and15];omega
      clear HYQ hjm
      by_cases heq:i % 16=mq
      case' pos =>
       have k3:((( i % 16:Nat):Int) == (mq:Int))=true:=by rw [beq_iff_eq];omega
       obtain ⟨wm,hm1,hm2,hm3⟩:=made513 wr w.heap.size HL.out.below.size
       have hbm:Below wr.heap.size wr wm:=⟨hm3.os,hm3.tape,hm3.output,hm3.size,fun k hk=>hm3.block k hk (by simp)⟩
       have HEM:=Lib.hid (entries513 hm2)
       have hgm:wr.heap.size < wm.heap.size:=(hm2.lt wr.heap.size rfl).2
       have HLM:=Lib.hid ((HL.out.grow hbm).swap)
       have HOM:=Lib.hid (show OffA (.slice (some ⟨wr.heap.size,0,none⟩) 513 513) Gb from fun a n c e q=>by
        injection e with e
        injection e with e
        have:=(HL.out.kat _ (List.mem_cons_of_mem _ (List.mem_cons_self ..))).lt q
        rw [<-e] at this
        simp only at this
        omega)
       have HE5:=Lib.hid (show tickE (nK es i) e513=2200 from by unfold tickE;rw [if_neg (by have:=(nK_now es i (by omega)).1;omega),if_pos (by unfold e513;simp)])
       clear hm2 hm3 hbm hgm HL
       go_wp2_with (go_at_call 17;refine num_at ?_)
       refine (HLM.out.tick (by omega) e513 _ HEM.out HOM.out).mono ?_
       rw [tickK_no (show tickE (nK es i) e513≠0 by rw [HE5.out];decide),HE5.out]
       rintro e w71 ⟨sa,sn,sc,Gb3,rfl,hn,hl⟩
       simp only at hn hl
       subst hn
       replace HLM:=Lib.hid (hl)
       clear hl hm1
       unfold krowV
       simp only
       obtain ⟨w72,g72,hw_w72,hg_g72,hb_w72,hk_g72,hs_w72⟩:=alloc_all w71 (.cells #[.int .i64 0,.int .i64 0,.bool false,.int .i64 0,.slice sa 0 sc] 41)
       replace HLM:=Lib.hid (HLM.out.alloc hb_w72 (by omega) hk_g72)
       clear hb_w72 hk_g72 hs_w72
       have q0:=BlockIs.of HLM.out.box0 0 (.int .i64 0) rfl
       have q1:=BlockIs.of HLM.out.box0 1 (.int .i64 0) rfl
       have q2:=BlockIs.of HLM.out.box0 2 (.bool false) rfl
       have q3:=BlockIs.of HLM.out.box0 3 (.int .i64 0) rfl
       have q4:=BlockIs.of HLM.out.box0 4 (.slice sa 0 sc) rfl
       have HES:=Lib.hid (show EventsV w72 (.slice sa 0 sc) [] from EvRow.events (B:=w.heap.size) (by have:=(HLM.out.row _ (List.mem_cons_self ..)).1;exact this) (by decide))
       go_wp2_with (first | (go_at_call 17;refine num_at ?_) | (rw [<-hw_w72,<-hg_g72];clear hw_w72 hg_g72))
       refine (sameRow_any ⟨0,0,false,0,[]⟩ _ _ _ HES.out (slice0 _ _ _ _)).mono ?_
       rintro e w73 ⟨rfl,hb⟩
       replace HLM:=Lib.hid (((HLM.out.grow hb).swap.nobox.less (List.Sublist.refl _) (List.sublist_cons_self _ _)))
       clear hb HES q0 q1 q2 q3 q4
       have HL:=Lib.hid (show LawAt w w73 [⟨Ya,nK es i,Ga,48*(i:Int)⟩,⟨Yb,nK es i,Gb3,m+48⟩] [] [⟨38,5,.slice xa j xc,j,(nX es j).flatMap entCells⟩,⟨38,5,.slice ya yl yc,yl,(nY es bad i j).flatMap entCells⟩] from HLM.out)
       clear HLM
       obtain ⟨Gb,hGb⟩:∃ Gb,Gb=Gb3:=⟨_,rfl⟩
       subst hGb
       go_wp2_with (go_at_call 17;refine num_at ?_)
       obtain ⟨w85,hq⟩:∃ x,x=w73:=⟨_,rfl⟩
       subst hq
       obtain ⟨m2,hm2⟩:∃ x,x=m+48:=⟨_,rfl⟩
       rw [<-hm2] at HL
       have hm3:m2<=96*i+48:=by omega
       clear hm2 hm k3
      case' neg =>
       have k3:((( i % 16:Nat):Int) == (mq:Int))=false:=by rw [beq_eq_false_iff_ne];omega
       go_wp2_with (go_at_call 17;refine num_at ?_)
       obtain ⟨w85,hq⟩:∃ x,x=wr:=⟨_,rfl⟩
       subst hq
       obtain ⟨m2,hm2⟩:∃ x,x=m:=⟨_,rfl⟩
       rw [<-hm2] at HL
       have hm3:m2<=96*i+48:=by omega
       clear hm2 hm k3
      all_goals
       have HEX:=Lib.hid (show EntriesV w85 (.slice xa j xc) (nX es (nM es)) from flatEntry.slice (by rw [<-HJ.out];have:=(HL.out.row _ (List.mem_cons_self ..)).1;simp only at this;rw [HJM.out] at this |-;exact this) (by have:=HJ.out;omega))
       have HOX:=Lib.hid (show OffA (.slice xa j xc) Ga from by have:=HL.out.offRow (List.mem_cons_self ..);exact this)
       obtain ⟨⟨Kn,rt,ro,rd,rm,re⟩,hR⟩:∃ R,R=tickK (nK es i) (nX es (nM es)):=⟨_,rfl⟩
       have HRR:=Lib.hid hR
       have HST:=Lib.hid (show nK es (i+1)=Kn by show (tickK (nK es i) (nX es (nM es))).1=Kn;rw [<-hR])
       have HOK:=Lib.hid (HL.out.ok _ (List.mem_cons_self ..))
       clear hR
       refine (HL.out.tick (by omega) (nX es (nM es)) _ HEX.out HOX.out).mono ?_
       rw [<-HRR.out,HF.out.1]
       rintro e w51 ⟨pa,pn,pc,Ga2,rfl,hn,hl⟩
       simp only at hn hl
       replace HL:=Lib.hid (hl)
       clear hl hn HEX HOX
       unfold krowV
       simp only
       obtain ⟨w52,g52,hw_w52,hg_g52,hb_w52,hk_g52,hs_w52⟩:=alloc_all w51 (.cells #[.int .i64 rt,.int .i64 ro,.bool rd,.int .i64 rm,.slice pa pn pc] 41)
       replace HL:=Lib.hid (HL.out.alloc hb_w52 (by omega) hk_g52)
       clear hb_w52 hk_g52 hs_w52
       go_wp2_with (go_at_call 17;refine num_at ?_)
       rw [<-hw_w52,<-hg_g52]
       clear hw_w52 hg_g52
       replace HL:=Lib.hid HL.out.swap
       have hry:=(HL.out.row _ (List.mem_cons_of_mem _ (List.mem_cons_of_mem _ (List.mem_cons_self ..)))).1
       simp only at hry
       rw [HJM.out] at hry
       have HEY:=Lib.hid (show EntriesV w52 (.slice ya yl yc) (nY es bad i (nM es)) from flatEntry.slice (by rw [<-HYL.out];exact hry) (by rw [<-HYL.out];have:=HYB.out;omega))
       have HOY:=Lib.hid (show OffA (.slice ya yl yc) Gb from by have:=HL.out.offRow (List.mem_cons_of_mem _ (List.mem_cons_of_mem _ (List.mem_cons_self ..)));exact this)
       clear hry
       refine (HL.out.tick (by omega) (nY es bad i (nM es)) _ HEY.out HOY.out).mono ?_
       rw [HF.out.2.2,HF.out.2.1,<-HRR.out]
       rintro e w53 ⟨qa,qn,qc,Gb2,rfl,hn,hl⟩
       simp only at hn hl
       replace HL:=Lib.hid (hl)
       clear hl hn HEY HOY
       unfold krowV
       simp only
       obtain ⟨w54,g54,hw_w54,hg_g54,hb_w54,hk_g54,hs_w54⟩:=alloc_all w53 (.cells #[.int .i64 rt,.int .i64 ro,.bool rd,.int .i64 rm,.slice qa qn qc] 41)
       replace HL:=Lib.hid (HL.out.alloc hb_w54 (by omega) hk_g54)
       clear hb_w54 hk_g54 hs_w54
       have p0:=BlockIs.of (HL.out.box _ (List.mem_cons_of_mem _ (List.mem_cons_self ..))).1 0 (.int .i64 rt) rfl
       have p1:=BlockIs.of (HL.out.box _ (List.mem_cons_of_mem _ (List.mem_cons_self ..))).1 1 (.int .i64 ro) rfl
       have p2:=BlockIs.of (HL.out.box _ (List.mem_cons_of_mem _ (List.mem_cons_self ..))).1 2 (.bool rd) rfl
       have p3:=BlockIs.of (HL.out.box _ (List.mem_cons_of_mem _ (List.mem_cons_self ..))).1 3 (.int .i64 rm) rfl
       have p4:=BlockIs.of (HL.out.box _ (List.mem_cons_of_mem _ (List.mem_cons_self ..))).1 4 (.slice pa pn pc) rfl
       have q0:=BlockIs.of HL.out.box0 0 (.int .i64 rt) rfl
       have q1:=BlockIs.of HL.out.box0 1 (.int .i64 ro) rfl
       have q2:=BlockIs.of HL.out.box0 2 (.bool rd) rfl
       have q3:=BlockIs.of HL.out.box0 3 (.int .i64 rm) rfl
       have q4:=BlockIs.of HL.out.box0 4 (.slice qa qn qc) rfl
       have hel:re.length*32<=140737488351232:=by
        have hk:=HOK.out
        have h:=tick_ev_len HRR.out hk
        exact h
       have HEP:=Lib.hid (show EventsV w54 (.slice pa pn pc) re from EvRow.events (B:=w.heap.size) (by have:=(HL.out.row _ (List.mem_cons_of_mem _ (List.mem_cons_self ..))).1;exact this) hel)
       have HEQ:=Lib.hid (show EventsV w54 (.slice qa qn qc) re from EvRow.events (B:=w.heap.size) (by have:=(HL.out.row _ (List.mem_cons_self ..)).1;exact this) hel)
       go_wp2_with (first | (go_at_call 17;refine num_at ?_) | (rw [<-hw_w54,<-hg_g54];clear hw_w54 hg_g54))
       refine (sameRow_any ⟨rt,ro,rd,rm,re⟩ _ _ _ HEP.out HEQ.out).mono ?_
       rintro e w55 ⟨rfl,hb⟩
       replace HL:=Lib.hid (((HL.out.grow hb).swap.nobox.norow))
       clear hb HEP HEQ HOK
       have HL5:Hid (LawAt w w55 [⟨Ya,nK es (i+1),Ga2,48*((i+1:Nat):Int)⟩,⟨Yb,nK es (i+1),Gb2,m2+48⟩] [] []):=Lib.hid (by
        have:=HL.out
        rw [show (48*((i+1:Nat):Int))=48*(i:Int)+48 by omega]
        rw [<-HST.out] at this
        exact this)
       clear p0 q0 p1 q1 p2 q2 p3 q3 p4 q4
       go_wp2_with (go_at_call 17;refine num_at ?_)
       go_roundw
       case rel=>exact ⟨i+1,Ga2,Gb2,m2+48,by omega,by push_cast;omega,by go_num,HL5⟩
       case measure=>simp [intOf];omega
  ·have hik:¬ (i:Int) < 60:=by omega
   go_wp2_with fail
   go_ret
   exact ⟨rfl,HL.out.below⟩
end Go.Proofs.YtooeeiiiflfckaaGreat
