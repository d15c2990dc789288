/- Chapter 22's law KernelOver (printed by gen22g.py). -/
import Derived.Test.YtooeeiiiflfckaaGreatLawO
import Derived.Test.YtooeeiiiflfckaaGreatLawC
import Derived.Test.YtooeeiiiflfckaaGreatOverP
set_option linter.unusedVariables false
set_option linter.unusedSimpArgs false
namespace Go.Proofs.YtooeeiiiflfckaaGreat
open Go.RowKit
theorem evMany_succ {es:List Event} {j:Nat} (h:j < es.length):evMany (es.take (j+1))=evMany (es.take j)+(if es[j].kind=4∨es[j].kind=0 then 1 else 0):=by
 unfold evMany
 rw [List.take_add_one,List.getElem?_eq_getElem h,List.filter_append,List.length_append]
 congr 1
 by_cases h4:es[j].kind=4 <;> by_cases h0:es[j].kind=0 <;> simp [h4,h0]
theorem evMany_le (es:List Event) (j:Nat):evMany (es.take j)<=j:=by
 unfold evMany
 have h1:=List.length_filter_le (fun e:Event=>decide (e.kind=4) || decide (e.kind=0)) (es.take j)
 have h2:=List.length_take_le j es
 omega
set_option maxRecDepth 100000 in
set_option maxHeartbeats 16000000 in
theorem kernelOver_any (low demand at_:Int) (w:World):Calls Tryz.prog 9 #[.int .i64 low,.int .i64 demand,.int .i64 at_] w fun e w'=>e=.returned (.bool true)/\Below w.heap.size w w':=by
 obtain ⟨t,ht⟩:=Int.eq_ofNat_of_zero_le (show 0<=bits BinOp.and IntKind.i64 at_ 7 by rw [i64_and7];omega)
 have ht1:t < 8:=by have:=i64_and7 at_;omega
 obtain ⟨y,hy⟩:=Int.eq_ofNat_of_zero_le (show 0<=bits BinOp.and IntKind.i64 demand 7 by rw [i64_and7];omega)
 have hy1:y < 8:=by have:=i64_and7 demand;omega
 obtain ⟨x,hx⟩:=Int.eq_ofNat_of_zero_le (show 0<=bits BinOp.and IntKind.i64 low 3 by rw [i64_and3];omega)
 have hx1:x < 4:=by have:=i64_and3 low;omega
 obtain ⟨d,hd⟩:∃ d:Nat,d=1+y:=⟨_,rfl⟩
 obtain ⟨b,hb⟩:∃ b:Nat,b=1+x:=⟨_,rfl⟩
 have s1:IntKind.i64.wrap (1+(y:Int))=(d:Int):=by rw [IntKind.wrap_i64];omega
 have s2:IntKind.i64.wrap (1+(x:Int))=(b:Int):=by rw [IntKind.wrap_i64];omega
 have s3:IntKind.i64.wrap ((t:Int)+(b:Int))=(t:Int)+(b:Int):=by rw [IntKind.wrap_i64];omega
 have s4:IntKind.i64.wrap ((t:Int)+(b:Int) - 1)=((t+b - 1:Nat):Int):=by rw [IntKind.wrap_i64];omega
 have HB:=Lib.hid (show 1<=b/\b<=4 by omega)
 have HT:=Lib.hid ht1
 have HD:=Lib.hid (show 1<=d/\d<=8 by omega)
 have hb1:1<=b:=by omega
 clear hd hb
 have HL:=Lib.hid (LawAt.start w)
 go_enter Tryz.func9,Tryz.ntmps9
 go_wp2_with (go_at_call 17;refine num_at ?_)
 refine (awake22 _).mono ?_
 rintro e w1 ⟨rfl,hb⟩
 replace HL:=Lib.hid (HL.out.grow hb)
 clear hb
 go_wp2_with (go_at_call 17;refine num_at ?_)
 refine (one_any 30 1 b 8 _ (by decide)).mono ?_
 rintro e w2 ⟨p1,p2,p3,p4,rfl,h1,h2,h3,h4,ho,hb⟩
 replace HL:=Lib.hid (HL.out.blocks hb (nb:=[(p1,oneT 12 12 b 8),(p2,oneL),(p3,oneP p1 p2),(p4,oneW 30)]) (by
  simp only [List.mem_cons,List.not_mem_nil,or_false]
  rintro p (rfl | rfl | rfl | rfl)
  ·exact ⟨by simp only;omega,h1⟩
  ·exact ⟨by simp only;omega,h2⟩
  ·exact ⟨by simp only;omega,h3⟩
  ·exact ⟨by simp only;omega,h4⟩) (by simp;omega))
 clear hb h1 h2 h3 h4 ho
 obtain ⟨w3,g3,hw_w3,hg_g3,hb_w3,hk_g3,hs_w3⟩:=alloc_all w2 (.cells #[.int .i64 30,.int .i64 1,.slice (some ⟨p3,0,none⟩) 2 2,.slice (some ⟨p4,0,none⟩) 2 2,.slice none 0 0] 26)
 replace HL:=Lib.hid (HL.out.alloc hb_w3 (by omega) hk_g3)
 clear hb_w3 hk_g3
 replace HL:=Lib.hid (HL.out.perm (List.Perm.swap _ _ _))
 have ac0:=BlockIs.of (HL.out.box _ (List.mem_cons_of_mem _ (List.mem_cons_self ..))).1 0 (.int .i64 30) rfl
 have ac1:=BlockIs.of (HL.out.box _ (List.mem_cons_of_mem _ (List.mem_cons_self ..))).1 1 (.int .i64 1) rfl
 have ac2:=BlockIs.of (HL.out.box _ (List.mem_cons_of_mem _ (List.mem_cons_self ..))).1 2 (.slice (some ⟨p3,0,none⟩) 2 2) rfl
 have ac3:=BlockIs.of (HL.out.box _ (List.mem_cons_of_mem _ (List.mem_cons_self ..))).1 3 (.slice (some ⟨p4,0,none⟩) 2 2) rfl
 have ac4:=BlockIs.of (HL.out.box _ (List.mem_cons_of_mem _ (List.mem_cons_self ..))).1 4 (.slice none 0 0) rfl
 have ap:=BlockIs.of (HL.out.box _ (List.mem_cons_of_mem _ (List.mem_cons_of_mem _ (List.mem_cons_of_mem _ (List.mem_cons_self ..))))).1 1 (.slice (some ⟨p1,0,none⟩) 1 1) rfl
 have at1:=BlockIs.of (HL.out.box _ (List.mem_cons_self ..)).1 1 (.int .i64 12) rfl
 have at2:=BlockIs.of (HL.out.box _ (List.mem_cons_self ..)).1 2 (.int .i64 12) rfl
 go_upto_region 5 with (fail)
 rw [<-hw_w3]
 (try rw [<-hs_w3])
 (try rw [<-hg_g3])
 clear hw_w3 hg_g3 hs_w3
 have fz:=thaw HL.out.box0
 go_upto_region 6 with (fail)
 obtain ⟨w4,hw4⟩:∃ w4,w4=w3.setCell ⟨p1,1,none⟩ (.int .i64 20):=⟨_,rfl⟩
 have hset:=HL.out.setBox 1 (.int .i64 20)
 rw [<-hw4] at hset
 replace HL:=Lib.hid hset
 rw [<-hw4]
 clear hset hw4 ac0 ac1 ac2 ac3 ac4 ap at1 at2 fz
 have fz:=thaw HL.out.box0
 have bc0:=BlockIs.of (HL.out.box _ (List.mem_cons_of_mem _ (List.mem_cons_self ..))).1 0 (.int .i64 30) rfl
 have bc1:=BlockIs.of (HL.out.box _ (List.mem_cons_of_mem _ (List.mem_cons_self ..))).1 1 (.int .i64 1) rfl
 have bc2:=BlockIs.of (HL.out.box _ (List.mem_cons_of_mem _ (List.mem_cons_self ..))).1 2 (.slice (some ⟨p3,0,none⟩) 2 2) rfl
 have bc3:=BlockIs.of (HL.out.box _ (List.mem_cons_of_mem _ (List.mem_cons_self ..))).1 3 (.slice (some ⟨p4,0,none⟩) 2 2) rfl
 have bc4:=BlockIs.of (HL.out.box _ (List.mem_cons_of_mem _ (List.mem_cons_self ..))).1 4 (.slice none 0 0) rfl
 have bp:=BlockIs.of (HL.out.box _ (List.mem_cons_of_mem _ (List.mem_cons_of_mem _ (List.mem_cons_of_mem _ (List.mem_cons_self ..))))).1 1 (.slice (some ⟨p1,0,none⟩) 1 1) rfl
 have bt1:=BlockIs.of (HL.out.box _ (List.mem_cons_self ..)).1 1 (.int .i64 20) rfl
 have bt2:=BlockIs.of (HL.out.box _ (List.mem_cons_self ..)).1 2 (.int .i64 12) rfl
 go_upto_region 7 with (fail)
 obtain ⟨w5,hw5⟩:∃ w5,w5=w4.setCell ⟨p1,2,none⟩ (.int .i64 20):=⟨_,rfl⟩
 have hset:=HL.out.setBox 2 (.int .i64 20)
 rw [<-hw5] at hset
 replace HL:=Lib.hid hset
 rw [<-hw5]
 clear hset hw5 bc0 bc1 bc2 bc3 bc4 bp bt1 bt2 fz
 have HC:=Lib.hid (show CfgV w5 (.agg #[.int .i64 30,.int .i64 1,.slice (some ⟨p3,0,none⟩) 2 2,.slice (some ⟨p4,0,none⟩) 2 2,.slice none 0 0]) (ovCfg b) from one_cfg (lo:=(b:Int)) (hi:=8) (per:=20) (dl:=20) (g1:=p1) (g2:=p2) (HL.out.box _ (List.mem_cons_self ..)).1 (HL.out.box _ (List.mem_cons_of_mem _ (List.mem_cons_of_mem _ (List.mem_cons_self ..)))).1 (HL.out.box _ (List.mem_cons_of_mem _ (List.mem_cons_of_mem _ (List.mem_cons_of_mem _ (List.mem_cons_self ..))))).1 (HL.out.box _ (List.mem_cons_of_mem _ (List.mem_cons_of_mem _ (List.mem_cons_of_mem _ (List.mem_cons_of_mem _ (List.mem_cons_self ..)))))).1)
 have ec0:=BlockIs.of (HL.out.box _ (List.mem_cons_of_mem _ (List.mem_cons_self ..))).1 0 (.int .i64 30) rfl
 have ec1:=BlockIs.of (HL.out.box _ (List.mem_cons_of_mem _ (List.mem_cons_self ..))).1 1 (.int .i64 1) rfl
 have ec2:=BlockIs.of (HL.out.box _ (List.mem_cons_of_mem _ (List.mem_cons_self ..))).1 2 (.slice (some ⟨p3,0,none⟩) 2 2) rfl
 have ec3:=BlockIs.of (HL.out.box _ (List.mem_cons_of_mem _ (List.mem_cons_self ..))).1 3 (.slice (some ⟨p4,0,none⟩) 2 2) rfl
 have ec4:=BlockIs.of (HL.out.box _ (List.mem_cons_of_mem _ (List.mem_cons_self ..))).1 4 (.slice none 0 0) rfl
 have ep:=BlockIs.of (HL.out.box _ (List.mem_cons_of_mem _ (List.mem_cons_of_mem _ (List.mem_cons_of_mem _ (List.mem_cons_self ..))))).1 1 (.slice (some ⟨p1,0,none⟩) 1 1) rfl
 go_wp2_with (go_at_call 17;refine num_at ?_)
 refine (HL.out.callNew (ovCfg b) _ 0 HC.out (ov_admit HB.out) (by decide)).mono ?_
 rintro e w6 ⟨Y,G,rfl,hl⟩
 replace HL:=Lib.hid (hl)
 clear hl HC ep ec0 ec1 ec2 ec3 ec4
 replace HL:=Lib.hid (HL.out.nobox)
 go_wp2_with (go_at_call 17;refine num_at ?_)
 go_loopw [13] (fun iv wr=>∃ (i:Nat) (G:Nat->Prop),i<=29/\iv=.int .i64 i/\Hid (LawAt w wr [⟨Y,ovK b t d i,G,48*i⟩] [] [])) (fun iv _=>29 - (intOf iv).toNat)
 case atStart=>exact ⟨0,G,by omega,rfl,HL⟩
 case round =>
  clear HL
  obtain ⟨i,G,hi,rfl,HL⟩:=hrel
  by_cases hlt:i < 29
  ·skip
   have hik:(i:Int) < 29:=by omega
   have hok:=ov_ok HB.out HT.out HD.out hlt
   unfold ovOk at hok
   obtain ⟨⟨Kn,rt,ro,rd,rm,re⟩,hR⟩:∃ R,R=tickK (ovK b t d i) (ovE t d):=⟨_,rfl⟩
   rw [<-hR] at hok
   simp only [Bool.and_eq_true,decide_eq_true_eq] at hok
   obtain ⟨⟨q1,q2⟩,q3⟩:=hok
   have HST:=Lib.hid (show ovK b t d (i+1)=Kn by show (tickK (ovK b t d i) (ovE t d)).1=Kn;rw [<-hR])
   unfold ovE at q1 hR
   have HRR:=Lib.hid hR
   have HQ1:=Lib.hid q1
   have HQ2:=Lib.hid q2
   have HQ3:=Lib.hid q3
   clear hR q1 q2 q3
   obtain ⟨w21,g21,hw_w21,hg_g21,hb_w21,hk_g21,hs_w21⟩:=alloc_all wr (.cells #[.int .i64 t,.int .i64 0,.int .i64 0,.int .i64 0,.int .i64 d] 38)
   replace HL:=Lib.hid (HL.out.alloc hb_w21 (by omega) hk_g21)
   clear hb_w21 hk_g21 hs_w21
   go_wp2_with (go_at_call 17;refine num_at ?_)
   rw [<-hw_w21,<-hg_g21]
   clear hw_w21 hg_g21
   have hel:re.length*32<=140737488351232:=by
    have hk:=HL.out.ok _ (List.mem_cons_self ..)
    have h:=tick_ev_len HRR.out hk
    exact h
   refine (HL.out.tick (by omega) [⟨(t:Int),0,0,0,(d:Int)⟩] _ (entries_blk [⟨(t:Int),0,0,0,(d:Int)⟩] HL.out.box0 (by simp)) (HL.out.offBox (List.mem_cons_self ..) 0 1 1)).mono ?_
   rw [<-HRR.out,HQ1.out]
   rintro e w22 ⟨ra,rn,rc,G2,rfl,hn,hl⟩
   simp only at hn hl
   have HRN:=Lib.hid hn
   replace HL:=Lib.hid (hl)
   clear hl
   unfold krowV
   simp only
   obtain ⟨w23,g23,hw_w23,hg_g23,hb_w23,hk_g23,hs_w23⟩:=alloc_all w22 (.cells #[.int .i64 rt,.int .i64 ro,.bool rd,.int .i64 rm,.slice ra rn rc] 41)
   replace HL:=Lib.hid (HL.out.alloc hb_w23 (by omega) hk_g23)
   clear hb_w23 hk_g23 hs_w23
   have hrn:rn<=1000000000000000000:=by omega
   clear hn
   have HEV:=Lib.hid (show EventsV w23 (.slice ra rn rc) re from EvRow.events (B:=w.heap.size) (by have:=(HL.out.row _ (List.mem_cons_self ..)).1;exact this) hel)
   clear hel
   have x3:=BlockIs.of HL.out.box0 3 (.int .i64 rm) rfl
   have x4:=BlockIs.of HL.out.box0 4 (.slice ra rn rc) rfl
   have HL2:=Lib.hid (show LawAt w w23 [⟨Y,ovK b t d (i+1),G2,48*((i+1:Nat):Int)⟩] [] [] by rw [HST.out];have:=HL.out.nobox.norow;exact (show (48*(i:Int)+48)=48*((i+1:Nat):Int) by omega) ▸ this)
   clear HL
   have hcase:¬ b < d∨(b < d/\i+1=t+b)∨(b < d/\t+b < i+1)∨(b < d/\i+1 < t+b):=by omega
   rcases hcase with hc | ⟨hc,hc2⟩ | ⟨hc,hc2⟩ | ⟨hc,hc2⟩
   case' inl =>
    have v1:decide ((d:Int) > (b:Int))=false:=decide_eq_false (by omega)
    have hq2:rm=0:=by rw [HQ2.out];exact if_neg (by omega)
    have hq3:((evMany re:Nat):Int)=0:=by rw [HQ3.out,if_neg (by omega)];rfl
    have HQ4:=Lib.hid hq3
    subst hq2
    clear hq3
    go_wp2_with (first | (go_at_call 17;refine num_at ?_) | (rw [<-hw_w23,<-hg_g23];clear hw_w23 hg_g23))
    clear v1
   case' inr.inl =>
    have v1:decide ((d:Int) > (b:Int))=true:=decide_eq_true (by omega)
    have v2:((i:Int) == ((t+b - 1:Nat):Int))=true:=by rw [beq_iff_eq];omega
    have v3:decide ((i:Int) >= ((t+b - 1:Nat):Int))=true:=decide_eq_true (by omega)
    have hq2:rm=1:=by rw [HQ2.out];exact if_pos (by omega)
    have hq3:((evMany re:Nat):Int)=2:=by rw [HQ3.out,if_pos (by omega)];rfl
    have HQ4:=Lib.hid hq3
    subst hq2
    clear hq3
    go_wp2_with (first | (go_at_call 17;refine num_at ?_) | (rw [<-hw_w23,<-hg_g23];clear hw_w23 hg_g23))
    clear v1 v2 v3
   case' inr.inr.inl =>
    have v1:decide ((d:Int) > (b:Int))=true:=decide_eq_true (by omega)
    have v2:((i:Int) == ((t+b - 1:Nat):Int))=false:=by rw [beq_eq_false_iff_ne];omega
    have v3:decide ((i:Int) >= ((t+b - 1:Nat):Int))=true:=decide_eq_true (by omega)
    have hq2:rm=1:=by rw [HQ2.out];exact if_pos (by omega)
    have hq3:((evMany re:Nat):Int)=0:=by rw [HQ3.out,if_neg (by omega)];rfl
    have HQ4:=Lib.hid hq3
    subst hq2
    clear hq3
    go_wp2_with (first | (go_at_call 17;refine num_at ?_) | (rw [<-hw_w23,<-hg_g23];clear hw_w23 hg_g23))
    clear v1 v2 v3
   case' inr.inr.inr =>
    have v1:decide ((d:Int) > (b:Int))=true:=decide_eq_true (by omega)
    have v2:((i:Int) == ((t+b - 1:Nat):Int))=false:=by rw [beq_eq_false_iff_ne];omega
    have v3:decide ((i:Int) >= ((t+b - 1:Nat):Int))=false:=decide_eq_false (by omega)
    have hq2:rm=0:=by rw [HQ2.out];exact if_neg (by omega)
    have hq3:((evMany re:Nat):Int)=0:=by rw [HQ3.out,if_neg (by omega)];rfl
    have HQ4:=Lib.hid hq3
    subst hq2
    clear hq3
    go_wp2_with (first | (go_at_call 17;refine num_at ?_) | (rw [<-hw_w23,<-hg_g23];clear hw_w23 hg_g23))
    clear v1 v2 v3
   all_goals
    go_loopw [18,19] (fun mv jv wq=>∃ (j:Nat),j<=rn/\jv=.int .i64 j/\mv=.int .i64 (evMany (re.take j):Nat)/\w23=wq) (fun _ jv _=>rn - (intOf jv).toNat)
    case atStart=>exact ⟨0,by omega,rfl,by simp [evMany],rfl⟩
    case round =>
     obtain ⟨j,hj,rfl,rfl,rfl⟩:=hrel
     obtain ⟨M,hM⟩:∃ M,M=evMany (re.take j):=⟨_,rfl⟩
     have hMj:M<=j:=by rw [hM];exact evMany_le re j
     rw [<-hM]
     have HM:=Lib.hid hM
     clear hM
     by_cases hjr:j < rn
     ·have hjl:j < re.length:=by rw [<-HRN.out];exact hjr
      have hj1:(j:Int) < (rn:Int):=by omega
      obtain ⟨⟨ek,ep,et,ev⟩,hx⟩:∃ x,x=re[j]:=⟨_,rfl⟩
      have hes:=evMany_succ hjl
      rw [<-hx,<-HM.out] at hes
      simp only at hes
      obtain ⟨eb,eo,hea,y0⟩:∃ eb eo,Value.slice ra rn rc=.slice (some ⟨eb,eo,none⟩) rn rc/\IntAt w23 eb (eo+j*4) ek:=by
       obtain ⟨a,cap,e,-,-,-,h4⟩:=HEV.out
       obtain ⟨b,off,ea,hce⟩:=h4 (by intro q;rw [q] at hjl;simp at hjl)
       subst ea
       injection e with e1 e2 e3
       subst e1
       subst e3
       have:=(hce j hjl).1
       rw [<-hx] at this
       exact ⟨b,off,rfl,this⟩
      injection hea with hea
      subst hea
      unfold IntAt at y0
      clear hx
      have hk:ek=4∨(ek≠4/\ek=0)∨(ek≠4/\ek≠0):=by omega
      rcases hk with rfl | ⟨e4,rfl⟩ | ⟨e4,e0⟩
      ·have HN2:=Lib.hid (show evMany (re.take (j+1))=M+1 by rw [hes];rfl)
       clear hes
       go_wp2_with (go_at_call 17;refine num_at ?_)
       go_roundw
       case rel=>exact ⟨j+1,by omega,by go_num,by rw [HN2.out];go_num,trivial⟩
       case measure=>simp [intOf];omega
      ·have HN2:=Lib.hid (show evMany (re.take (j+1))=M+1 by rw [hes];rfl)
       clear hes
       go_wp2_with (go_at_call 17;refine num_at ?_)
       go_roundw
       case rel=>exact ⟨j+1,by omega,by go_num,by rw [HN2.out];go_num,trivial⟩
       case measure=>simp [intOf];omega
      ·have HN2:=Lib.hid (show evMany (re.take (j+1))=M by rw [hes,if_neg (by omega)];rfl)
       clear hes
       have f4:(ek == 4)=false:=by rw [beq_eq_false_iff_ne];exact e4
       have f0:(ek == 0)=false:=by rw [beq_eq_false_iff_ne];exact e0
       go_wp2_with (go_at_call 17;refine num_at ?_)
       go_roundw
       case rel=>exact ⟨j+1,by omega,by go_num,by rw [HN2.out],trivial⟩
       case measure=>simp [intOf];omega
     ·have hj1:¬ (j:Int) < (rn:Int):=by omega
      have hM2:(M:Int)=((evMany re:Nat):Int):=by rw [HM.out,List.take_of_length_le (by rw [<-HRN.out];omega)]
      rw [HQ4.out] at hM2
      rw [hM2]
      clear hM2 hMj HM
      go_wp2_with (go_at_call 17;refine num_at ?_)
      go_roundw
      case rel=>exact ⟨i+1,G2,by omega,by go_num,HL2⟩
      case measure=>simp [intOf];omega
  ·have hik:¬ (i:Int) < 29:=by omega
   go_wp2_with fail
   go_ret
   exact ⟨rfl,HL.out.below⟩
end Go.Proofs.YtooeeiiiflfckaaGreat
