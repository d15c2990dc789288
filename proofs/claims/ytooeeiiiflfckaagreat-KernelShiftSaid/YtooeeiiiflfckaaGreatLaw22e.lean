/- Chapter 22's law KernelShift (printed by gen22e.py). -/
import Derived.Test.YtooeeiiiflfckaaGreatLaw22a
import Derived.Test.YtooeeiiiflfckaaGreatLawC
import Derived.Test.YtooeeiiiflfckaaGreatShiR
set_option linter.unusedVariables false
set_option linter.unusedSimpArgs false
namespace Go.Proofs.YtooeeiiiflfckaaGreat
open Go.RowKit
set_option maxRecDepth 100000 in
set_option maxHeartbeats 16000000 in
theorem kernelShift_any (es:List Entry) (v:Value) (rounds:Int) (w:World) (hv:EntriesV w v es):Calls Tryz.prog 13 #[v,.int .i64 rounds] w fun e w'=>e=.returned (.bool true)/\Below w.heap.size w w':=by
 have HV:=Lib.hid hv
 obtain ⟨va,vc,rfl,hz1,hz2,hz3,-⟩:=id hv
 obtain ⟨n,hn⟩:∃ n,n=es.length:=⟨_,rfl⟩
 rw [<-hn] at HV |-
 have hnb:n<=1000000000000000000:=by omega
 have HN:=Lib.hid hn
 obtain ⟨y,hy⟩:=Int.eq_ofNat_of_zero_le (show 0<=bits BinOp.and IntKind.i64 rounds 65535 by rw [i64_and65535];omega)
 have hy1:y<=65535:=by have:=i64_and65535 rounds;omega
 obtain ⟨q,hq⟩:∃ q:Nat,q=10*y:=⟨_,rfl⟩
 have hq1:IntKind.i64.wrap ((y:Int)*10)=(q:Int):=by rw [IntKind.wrap_i64];omega
 have hqb:q<=655350:=by omega
 have HY:=Lib.hid (And.intro hy1 hq)
 have HQ:=Lib.hid hqb
 clear hv hz1 hz2 hz3 hn hq
 have HL:=Lib.hid (LawAt.start w)
 go_enter Tryz.func13,Tryz.ntmps13
 go_wp2_with (go_at_call 17;refine num_at ?_)
 refine (awake22 _).mono ?_
 rintro e w1 ⟨rfl,hb⟩
 replace HL:=Lib.hid (HL.out.grow hb)
 clear hb
 go_wp2_with (go_at_call 17;refine num_at ?_)
 refine (plain22_any _).mono ?_
 rintro e w2 ⟨v1,rfl,hc,hb⟩
 have HC:=Lib.hid hc
 replace HL:=Lib.hid (HL.out.grow hb)
 clear hc hb
 go_wp2_with (go_at_call 17;refine num_at ?_)
 refine (HL.out.callNew plainCfg _ 0 HC.out plain_admit (by decide)).mono ?_
 rintro e w3 ⟨Ya,Ga,rfl,hl⟩
 replace HL:=Lib.hid (hl)
 clear hl HC
 go_wp2_with (go_at_call 17;refine num_at ?_)
 refine (plain22_any _).mono ?_
 rintro e w4 ⟨v1,rfl,hc,hb⟩
 have HC:=Lib.hid hc
 replace HL:=Lib.hid (HL.out.grow hb)
 clear hc hb
 go_wp2_with (go_at_call 17;refine num_at ?_)
 refine (HL.out.callNew plainCfg _ (q:Int) HC.out plain_admit (clockYes (by omega) (by omega))).mono ?_
 rintro e w5 ⟨Yb,Gb,rfl,hl⟩
 replace HL:=Lib.hid (hl.swap)
 clear hl HC
 go_wp2_with (go_at_call 17;refine num_at ?_)
 go_loopw [10] (fun iv wr=>∃ (i:Nat) (Ga Gb:Nat->Prop),i<=80/\iv=.int .i64 i/\Hid (LawAt w wr [⟨Ya,sK es i,Ga,48*i⟩,⟨Yb,shK q (sK es i),Gb,48*i⟩] [] [])) (fun iv _=>80 - (intOf iv).toNat)
 case atStart=>exact ⟨0,Ga,Gb,by omega,rfl,Lib.hid (by have:=HL.out;rw [s_new (q:Int)] at this;exact this)⟩
 case round =>
  clear HL
  obtain ⟨i,Ga,Gb,hi,rfl,HL⟩:=hrel
  by_cases hi2:i < 80
  ·skip
   have hik:(i:Int) < 80:=by omega
   obtain ⟨-,-,-,-,-,hfa⟩:=s_all es HY.out.1 i (by omega)
   obtain ⟨f1,f2,f3⟩:=hfa hi2
   rw [<-HY.out.2] at f2 f3
   have HF:=Lib.hid (And.intro f1 (And.intro f2 f3))
   clear f1 f2 f3 hfa
   go_wp2_with (go_at_call 17;refine num_at ?_)
   go_loopw [11,12,13] (fun xv yv jv wr=>∃ (j:Nat) (xa:Option Addr) (xc:Nat) (ya:Option Addr) (yc:Nat),j<=n/\j<=40/\jv=.int .i64 j/\xv=.slice xa j xc/\yv=.slice ya j yc/\Hid (LawAt w wr [⟨Ya,sK es i,Ga,48*i⟩,⟨Yb,shK q (sK es i),Gb,48*i⟩] [] [⟨38,5,.slice xa j xc,j,(sX es j).flatMap entCells⟩,⟨38,5,.slice ya j yc,j,((sX es j).map (shE q)).flatMap entCells⟩])) (fun _ _ jv _=>n - (intOf jv).toNat)
   case atStart=>exact ⟨0,none,0,none,0,by omega,by omega,rfl,rfl,rfl,Lib.hid ((HL.out.nilRow 38 5).nilRow 38 5)⟩
   case round =>
    clear HL
    obtain ⟨j,xa,xc,ya,yc,hj,hj40,rfl,rfl,rfl,HL⟩:=hrel
    by_cases hgo:j < n/\j < 40
    ·skip
     have c1:(j:Int) < (n:Int):=by omega
     have c2:(j:Int) < 40:=by omega
     have c1n:j < n:=hgo.1
     have hxl:j < es.length:=by rw [<-HN.out];exact hgo.1
     have HSX:=Lib.hid (sX_succ hxl)
     obtain ⟨⟨xat,xkd,xpt,xtk,xvl⟩,hx⟩:∃ x,x=es[j]:=⟨_,rfl⟩
     obtain ⟨eb,eo,hea,y0,y1,y2,y3,y4⟩:∃ eb eo,Value.slice va n vc=.slice (some ⟨eb,eo,none⟩) n vc/\EntryAt w eb (eo+j*5) ⟨xat,xkd,xpt,xtk,xvl⟩:=by
      obtain ⟨a,cap,e,-,-,-,h4⟩:=HV.out
      obtain ⟨b,off,ea,hce⟩:=h4 (by intro q;rw [q] at hxl;simp at hxl)
      subst ea
      injection e with e1 e2 e3
      subst e1
      subst e3
      exact ⟨b,off,rfl,by rw [hx];exact hce j hxl⟩
     injection hea with hea
     subst hea
     have hxt:=Ext.below HL.out.below
     replace y0:=hxt _ _ y0
     replace y1:=hxt _ _ y1
     replace y2:=hxt _ _ y2
     replace y3:=hxt _ _ y3
     replace y4:=hxt _ _ y4
     simp only at y0 y1 y2 y3 y4
     obtain ⟨z,hz⟩:=Int.eq_ofNat_of_zero_le (show 0<=bits BinOp.and IntKind.i64 xat 127 by rw [i64_and127];omega)
     have hz1:z<=127:=by have:=i64_and127 xat;omega
     have HZ:=Lib.hid (show sV es[j]=⟨(z:Int),xkd,xpt,xtk,xvl⟩ by rw [<-hx];unfold sV;simp only;rw [<-hz,i64_and127])
     clear hx hxt
     obtain ⟨w31,g31,hw_w31,hg_g31,hb_w31,hk_g31,hs_w31⟩:=alloc_all wr (.cells #[.int .i64 z,.int .i64 xkd,.int .i64 xpt,.int .i64 xtk,.int .i64 xvl] 38)
     replace HL:=Lib.hid (HL.out.alloc hb_w31 (by omega) hk_g31)
     clear hb_w31 hk_g31
     go_upto_region 17 with (fail)
     rw [<-hw_w31]
     (try rw [<-hs_w31])
     (try rw [<-hg_g31])
     clear hw_w31 hg_g31 hs_w31
     clear y0 y1 y2 y3 y4
     have b0:=BlockIs.of HL.out.box0 0 (.int .i64 z) rfl
     have b1:=BlockIs.of HL.out.box0 1 (.int .i64 xkd) rfl
     have b2:=BlockIs.of HL.out.box0 2 (.int .i64 xpt) rfl
     have b3:=BlockIs.of HL.out.box0 3 (.int .i64 xtk) rfl
     have b4:=BlockIs.of HL.out.box0 4 (.int .i64 xvl) rfl
     go_wp2_with (first | (go_at_call 17;refine num_at ?_) | (at_builtin;refine append_elem_at rfl (.tmp 73) (.tmp 75) 27 rfl w.heap.size 38 _ 5 40 Tryz.underlying27 infoEntry rfl (by decide) (.slice xa j xc) j _ rfl HL.out.row0 (entCells ⟨(z:Int),xkd,xpt,xtk,xvl⟩) w31.heap.size rfl rfl rfl rfl (by omega) (by omega) HL.out.below.size ?_))
     intro v2 w2 hown hbel hg hat
     replace HL:=Lib.hid (HL.out.onto hown hg (by simpa using hat))
     obtain ⟨xa2,xc2,rfl⟩:=own_shape hown
     replace HL:=Lib.hid HL.out.rot
     clear hown hbel hg hat b0 b1 b2 b3 b4
     have b0:=BlockIs.of HL.out.box0 0 (.int .i64 z) rfl
     have fz:=thaw HL.out.box0
     obtain ⟨zq,hzq⟩:∃ zq:Nat,zq=z+q:=⟨_,rfl⟩
     have s5:IntKind.i64.wrap ((z:Int)+(q:Int))=(zq:Int):=by rw [IntKind.wrap_i64];have:=HQ.out;omega
     have HZQ:=Lib.hid (show (z:Int)+(q:Int)=(zq:Int) by omega)
     clear hzq
     obtain ⟨w3,hw3⟩:∃ w3,w3=w2.setCell ⟨g31,0,none⟩ (.int .i64 (zq:Int)):=⟨_,rfl⟩
     have hset:=HL.out.setBox 0 (.int .i64 (zq:Int))
     rw [<-hw3] at hset
     have HL3:=Lib.hid hset
     have hbx:=hset.box0
     have c5:=BlockIs.of hbx 0 (.int .i64 (zq:Int)) rfl
     have c6:=BlockIs.of hbx 1 (.int .i64 xkd) rfl
     have c7:=BlockIs.of hbx 2 (.int .i64 xpt) rfl
     have c8:=BlockIs.of hbx 3 (.int .i64 xtk) rfl
     have c9:=BlockIs.of hbx 4 (.int .i64 xvl) rfl
     clear hset hbx HL
     go_wp2_with (first | (go_at_call 17;refine num_at ?_) | (rw [<-hw3];clear hw3 b0 fz) | (at_builtin;refine append_elem_at rfl (.tmp 82) (.tmp 84) 27 rfl w.heap.size 38 _ 5 40 Tryz.underlying27 infoEntry rfl (by decide) (.slice ya j yc) j _ rfl HL3.out.row0 (entCells ⟨(zq:Int),xkd,xpt,xtk,xvl⟩) w3.heap.size rfl rfl rfl rfl (by omega) (by omega) HL3.out.below.size ?_))
     intro v4 w4 hown hbel hg hat
     have hL4:=(HL3.out.onto hown hg (by simpa using hat)).rot.nobox
     obtain ⟨ya2,yc2,rfl⟩:=own_shape hown
     have HL4:Hid (LawAt w w4 [⟨Ya,sK es i,Ga,48*i⟩,⟨Yb,shK q (sK es i),Gb,48*i⟩] [] [⟨38,5,.slice xa2 (j+1) xc2,(j+1),(sX es (j+1)).flatMap entCells⟩,⟨38,5,.slice ya2 (j+1) yc2,(j+1),((sX es (j+1)).map (shE q)).flatMap entCells⟩]):=Lib.hid (by
      rw [HSX.out,HZ.out]
      simpa [shE,entCells,HZQ.out] using hL4)
     clear hown hbel hg hat hL4 c5 c6 c7 c8 c9
     go_wp2_with (go_at_call 17;refine num_at ?_)
     go_roundw
     case rel=>exact ⟨j+1,xa2,xc2,ya2,yc2,by omega,by omega,by go_num,rfl,rfl,HL4⟩
     case measure=>simp [intOf];omega
    ·have hst:¬ (j:Int) < (n:Int)∨(j:Int) < (n:Int)/\¬ (j:Int) < 40:=by omega
     rcases hst with c1 | ⟨c1,c2⟩
     all_goals
      have hjm:j=sM es:=by unfold sM;rw [<-HN.out];omega
      have HJ:=Lib.hid (show j=(sX es (sM es)).length by rw [sX_len (by unfold sM;omega)];exact hjm)
      rw [hjm] at HL
      skip
      have HEX:=Lib.hid (show EntriesV wr (.slice xa j xc) (sX es (sM es)) from flatEntry.slice (by rw [<-HJ.out,hjm];exact (HL.out.row _ (List.mem_cons_self ..)).1) (by have:=HJ.out;omega))
      have HOX:=Lib.hid (show OffA (.slice xa j xc) Ga from by have:=HL.out.offRow (List.mem_cons_self ..);simp only at this;rw [<-hjm] at this;exact this)
      have HJM:=Lib.hid hjm
      obtain ⟨⟨Kn,rt,ro,rd,rm,re⟩,hR⟩:∃ R,R=tickK (sK es i) (sX es (sM es)):=⟨_,rfl⟩
      have HRR:=Lib.hid hR
      have HST:=Lib.hid (show sK es (i+1)=Kn by show (tickK (sK es i) (sX es (sM es))).1=Kn;rw [<-hR])
      clear hjm hR
      go_wp2_with (go_at_call 17;refine num_at ?_)
      refine (HL.out.tick (by omega) (sX es (sM es)) _ HEX.out HOX.out).mono ?_
      rw [<-HRR.out,HF.out.1]
      rintro e w51 ⟨pa,pn,pc,Ga2,rfl,hn,hl⟩
      simp only at hn hl
      have HPN:=Lib.hid hn
      replace HL:=Lib.hid (hl)
      clear hl hn HEX HOX
      unfold krowV
      simp only
      obtain ⟨w52,g52,hw_w52,hg_g52,hb_w52,hk_g52,hs_w52⟩:=alloc_all w51 (.cells #[.int .i64 rt,.int .i64 ro,.bool rd,.int .i64 rm,.slice pa pn pc] 41)
      replace HL:=Lib.hid (HL.out.alloc hb_w52 (by omega) hk_g52)
      clear hb_w52 hk_g52 hs_w52
      go_wp2_with (go_at_call 17;refine num_at ?_)
      rw [<-hw_w52,<-hg_g52]
      clear hw_w52 hg_g52
      replace HL:=Lib.hid HL.out.swap
      have hry:=(HL.out.row _ (List.mem_cons_of_mem _ (List.mem_cons_of_mem _ (List.mem_cons_self ..)))).1
      simp only at hry
      have HEY:=Lib.hid (show EntriesV w52 (.slice ya j yc) ((sX es (sM es)).map (shE q)) from flatEntry.slice (by rw [List.length_map,<-HJ.out,HJM.out];exact hry) (by rw [List.length_map];have:=HJ.out;omega))
      have HOY:=Lib.hid (show OffA (.slice ya j yc) Gb from by have:=HL.out.offRow (List.mem_cons_of_mem _ (List.mem_cons_of_mem _ (List.mem_cons_self ..)));simp only at this;rw [<-HJM.out] at this;exact this)
      clear hry
      refine (HL.out.tick (by omega) ((sX es (sM es)).map (shE q)) _ HEY.out HOY.out).mono ?_
      rw [HF.out.2.2,HF.out.2.1,<-HRR.out]
      rintro e w53 ⟨qa,qn,qc,Gb2,rfl,hn,hl⟩
      simp only at hn hl
      have HQN:=Lib.hid hn
      replace HL:=Lib.hid (hl)
      clear hl hn HEY HOY
      unfold krowV
      simp only
      skip
      obtain ⟨w54,g54,hw_w54,hg_g54,hb_w54,hk_g54,hs_w54⟩:=alloc_all w53 (.cells #[.int .i64 rt,.int .i64 ro,.bool rd,.int .i64 rm,.slice qa qn qc] 41)
      replace HL:=Lib.hid (HL.out.alloc hb_w54 (by omega) hk_g54)
      clear hb_w54 hk_g54 hs_w54
      have hrt:rt=(i:Int):=by have:=(tickK_same HF.out.1).2.2.2.2;rw [<-HRR.out] at this;simp only at this;rw [this];exact (s_all es HY.out.1 i (by omega)).2.2.2.1
      have s6:IntKind.i64.wrap (rt+(q:Int) - (q:Int))=rt:=by rw [IntKind.wrap_i64];have:=HQ.out;omega
      subst hrt
      have hp:=(HL.out.box _ (List.mem_cons_of_mem _ (List.mem_cons_self ..))).1
      have p0:=BlockIs.of hp 0 (.int .i64 (i:Int)) rfl
      have p1:=BlockIs.of hp 1 (.int .i64 ro) rfl
      have p2:=BlockIs.of hp 2 (.bool rd) rfl
      have p3:=BlockIs.of hp 3 (.int .i64 rm) rfl
      have p4:=BlockIs.of hp 4 (.slice pa pn pc) rfl
      have q0:=BlockIs.of HL.out.box0 0 (.int .i64 (i:Int)) rfl
      have q1:=BlockIs.of HL.out.box0 1 (.int .i64 ro) rfl
      have q2:=BlockIs.of HL.out.box0 2 (.bool rd) rfl
      have q3:=BlockIs.of HL.out.box0 3 (.int .i64 rm) rfl
      have q4:=BlockIs.of HL.out.box0 4 (.slice qa qn qc) rfl
      have hel:re.length*32<=140737488351232:=by
       have hk:=(s_all es HY.out.1 i (by omega)).1
       have h:=tick_ev_len HRR.out hk
       exact h
      have HEP:=Lib.hid (show EventsV w54 (.slice pa pn pc) re from EvRow.events (B:=w.heap.size) (by have:=(HL.out.row _ (List.mem_cons_of_mem _ (List.mem_cons_self ..))).1;exact this) hel)
      have HEQ:=Lib.hid (show EventsV w54 (.slice qa qn qc) re from EvRow.events (B:=w.heap.size) (by have:=(HL.out.row _ (List.mem_cons_self ..)).1;exact this) hel)
      go_wp2_with (first | (go_at_call 17;refine num_at ?_) | (rw [<-hw_w54,<-hg_g54];clear hw_w54 hg_g54))
      refine (sameRow_any ⟨(i:Int),ro,rd,rm,re⟩ _ _ _ HEP.out HEQ.out).mono ?_
      rintro e w55 ⟨rfl,hb⟩
      replace HL:=Lib.hid (((HL.out.grow hb).swap.nobox.norow))
      clear hb HEP HEQ
      have HL5:Hid (LawAt w w55 [⟨Ya,sK es (i+1),Ga2,48*((i+1:Nat):Int)⟩,⟨Yb,shK q (sK es (i+1)),Gb2,48*((i+1:Nat):Int)⟩] [] []):=Lib.hid (by
       have:=HL.out
       rw [show (48*((i+1:Nat):Int))=48*(i:Int)+48 by omega]
       rw [<-HST.out] at this
       exact this)
      clear hp p0 q0 p1 q1 p2 q2 p3 q3 p4 q4
      go_wp2_with (go_at_call 17;refine num_at ?_)
      go_roundw
      case rel=>exact ⟨i+1,Ga2,Gb2,by omega,by go_num,HL5⟩
      case measure=>simp [intOf];omega
  ·have hik:¬ (i:Int) < 80:=by omega
   go_wp2_with fail
   go_ret
   exact ⟨rfl,HL.out.below⟩
end Go.Proofs.YtooeeiiiflfckaaGreat
