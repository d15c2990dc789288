/- Chapter 22's laws: awake (printed by gen22a.py). -/
import Derived.Test.YtooeeiiiflfckaaGreatLawK
import Derived.Test.YtooeeiiiflfckaaGreatAwkP
import Derived.Test.YtooeeiiiflfckaaGreatRowA
set_option linter.unusedVariables false
set_option linter.unusedSimpArgs false
namespace Go.Proofs.YtooeeiiiflfckaaGreat
open Go.RowKit
theorem num_any (x:Int) (w:World):Calls Tryz.prog 17 #[.int .i64 x] w fun e w'=>e=.returned (.int .i64 x)/\w'=w:=by
 go_enter Tryz.func17,Tryz.ntmps17
 go_wp2_with fail
 go_ret
 exact ⟨rfl,rfl⟩
theorem num_at {x:Int} {w:World} {Q:Ending->World->Prop} (h:Q (.returned (.int .i64 x)) w):Calls Tryz.prog 17 #[.int .i64 x] w Q:=(num_any x w).mono (by rintro e w' ⟨rfl,rfl⟩;exact h)
theorem field_led1 (w:World) (a b c d:Int):(Instr.field 63 (.agg #[.int .i64 a,.int .i64 b,.int .i64 c,.int .i64 d]) 1).run Tryz.prog w=.ok (.int .i64 b) w:=by kernel_rfl
theorem field_mod0 (w:World) (a b:Int) (c:Bool):(Instr.field 87 (.agg #[.int .i64 a,.int .i64 b,.bool c]) 0).run Tryz.prog w=.ok (.int .i64 a) w:=by kernel_rfl
set_option maxRecDepth 100000 in
set_option maxHeartbeats 16000000 in
theorem awake22 (w:World):Calls Tryz.prog 14 #[] w fun e w'=>e=.returned (.bool true)/\Below w.heap.size w w':=by
 have HL:=Lib.hid (LawAt.start w)
 go_enter Tryz.func14,Tryz.ntmps14
 go_wp2_with (go_at_call 17;refine num_at ?_)
 refine (plain22_any _).mono ?_
 rintro e w1 ⟨v1,rfl,hc,hb⟩
 have HC:=Lib.hid hc
 replace HL:=Lib.hid (HL.out.grow hb)
 clear hc hb
 go_wp2_with (go_at_call 17;refine num_at ?_)
 refine (HL.out.callNew plainCfg _ 0 HC.out plain_admit (by decide)).mono ?_
 rintro e w2 ⟨Y,G,rfl,hl⟩
 replace HL:=Lib.hid (hl)
 clear hl HC
 go_wp2_with (go_at_call 17;refine num_at ?_)
 refine (plain22_any _).mono ?_
 rintro e w3 ⟨v1,rfl,hc,hb⟩
 have HC:=Lib.hid hc
 replace HL:=Lib.hid (HL.out.grow hb)
 clear hc hb
 go_wp2_with (go_at_call 17;refine num_at ?_)
 refine (HL.out.callNewClock plainCfg _ (-1) HC.out plain_admit (by decide)).mono ?_
 rintro e w4 ⟨rfl,hl⟩
 replace HL:=Lib.hid (hl)
 clear hl HC
 go_wp2_with (go_at_call 17;refine num_at ?_)
 refine (HL.out.callNewBad zeroCfg _ 0 ⟨_,_,_,rfl,⟨slice0 _ _ _ _,slice0 _ _ _ _,slice0 _ _ _ _⟩⟩ (by rw [zero_admit];decide)).mono ?_
 rw [zero_admit]
 rintro e w5 ⟨rfl,hl⟩
 replace HL:=Lib.hid (hl)
 clear hl
 obtain ⟨w6,g6,hw_w6,hg_g6,hb_w6,hk_g6,hs_w6⟩:=alloc_all w5 (.cells #[.int .i64 0,.int .i64 0,.int .i64 0,.int .i64 0,.int .i64 3,.int .i64 0,.int .i64 0,.int .i64 1,.int .i64 0,.int .i64 2] 38)
 replace HL:=Lib.hid (HL.out.alloc hb_w6 (by omega) hk_g6)
 clear hb_w6 hk_g6 hs_w6
 go_wp2_with (go_at_call 17;refine num_at ?_)
 rw [<-hw_w6,<-hg_g6]
 clear hw_w6 hg_g6
 have hek:=(HL.out.box _ (List.mem_cons_self ..)).1
 simp only at hek
 have HE:=Lib.hid (show EntriesV w6 (.slice (some ⟨g6,0,none⟩) 2 2) awE from slice2 (by decide) (show EntryAt w6 g6 0 ⟨0,0,0,0,3⟩ from ⟨BlockIs.of hek 0 _ rfl,BlockIs.of hek 1 _ rfl,BlockIs.of hek 2 _ rfl,BlockIs.of hek 3 _ rfl,BlockIs.of hek 4 _ rfl⟩) (show EntryAt w6 g6 5 ⟨0,0,1,0,2⟩ from ⟨BlockIs.of hek 5 _ rfl,BlockIs.of hek 6 _ rfl,BlockIs.of hek 7 _ rfl,BlockIs.of hek 8 _ rfl,BlockIs.of hek 9 _ rfl⟩))
 clear hek
 refine (HL.out.tick (by omega) awE _ HE.out (HL.out.offBox (List.mem_cons_self ..) 0 2 2)).mono ?_
 rw [aw_r1,aw_e0]
 rintro e w7 ⟨ra1,rn1,rc1,G1,rfl,hn,hl⟩
 simp only at hn hl
 subst hn
 replace HL:=Lib.hid (hl)
 clear hl
 unfold krowV
 simp only
 obtain ⟨w8,g8,hw_w8,hg_g8,hb_w8,hk_g8,hs_w8⟩:=alloc_all w7 (.cells #[.int .i64 0,.int .i64 0,.bool false,.int .i64 0,.slice ra1 2 rc1] 41)
 replace HL:=Lib.hid (HL.out.alloc hb_w8 (by omega) hk_g8)
 clear hb_w8 hk_g8 hs_w8
 go_wp2_with (go_at_call 17;refine num_at ?_)
 rw [<-hw_w8,<-hg_g8]
 clear hw_w8 hg_g8
 refine (HL.out.tick (by omega) [] _ (slice0 _ _ _ _) (offNil _)).mono ?_
 rw [aw_r2,aw_e1]
 rintro e w9 ⟨ra2,rn2,rc2,G2,rfl,hn,hl⟩
 simp only at hn hl
 subst hn
 replace HL:=Lib.hid (hl)
 clear hl
 unfold krowV
 simp only
 obtain ⟨w10,g10,hw_w10,hg_g10,hb_w10,hk_g10,hs_w10⟩:=alloc_all w9 (.cells #[.int .i64 1,.int .i64 0,.bool false,.int .i64 1,.slice ra2 3 rc2] 41)
 replace HL:=Lib.hid (HL.out.alloc hb_w10 (by omega) hk_g10)
 clear hb_w10 hk_g10 hs_w10
 go_wp2_with (go_at_call 17;refine num_at ?_)
 rw [<-hw_w10,<-hg_g10]
 clear hw_w10 hg_g10
 refine (HL.out.callVm 0).mono ?_
 rintro e w11 ⟨⟨vm1,er1,rfl,hv1,hv2,hm⟩,hl⟩
 replace HL:=Lib.hid (hl)
 obtain ⟨hv,rfl⟩:=hv1 (by rw [aw_vm.2.2];decide)
 have HV1:=Lib.hid hv
 clear hv hv1 hv2
 have HM1:=Lib.hid hm
 clear hm hl
 obtain ⟨wx12,g12,hw_wx12,hg_g12,hb_wx12,hk_g12,hs_wx12⟩:=alloc_all w11 (.cells #[.int .i64 0,.int .i64 0,.int .i64 0,.int .i64 0,.int .i64 0,.int .i64 0,.int .i64 0,.int .i64 0,.int .i64 0,.int .i64 0,.int .i64 0,.int .i64 0,.int .i64 0,.int .i64 0,.int .i64 0,.int .i64 0,.int .i64 0,.int .i64 0] 69)
 obtain ⟨w12,hw_w12⟩:∃ w12,w12=wx12.setRow g12 (vmCells vm1).toArray:=⟨_,rfl⟩
 have hkz:w12.heap[g12]?=some (.cells (vmCells vm1).toArray 69 (0,0)):=by rw [hw_w12];exact setRow_heap _ _ _ _ _ _ hk_g12
 have hgz:=setRow_grown wx12 g12 (vmCells vm1).toArray
 rw [<-hw_w12] at hgz
 have HKX:=Lib.hid hk_g12
 replace HL:=Lib.hid (HL.out.alloc (bput hb_wx12 hgz (by omega) (Nat.le_refl _)) (by omega) hkz)
 clear hkz hgz hb_wx12 hk_g12
 skip
 go_wp2_with (first | (rw [<-hw_wx12,<-hg_g12];clear hw_wx12 hg_g12;refine wpList_store_row rfl 69 _ _ rfl g12 (vmCells vm1).toArray rfl rfl _ _ HKX.out (by rw [vmSize HM1.out];kernel_rfl) (by rw [vmSize HM1.out];rfl) (vm_one vm1) ?_;rw [<-hw_w12];clear hw_w12) | fail)
 refine (HL.out.callVm 2).mono ?_
 rintro e w13 ⟨⟨vm2,er2,rfl,hv1,hv2,hm⟩,hl⟩
 replace HL:=Lib.hid (hl)
 obtain ⟨hv,rfl⟩:=hv2 (by rw [aw_vm.2.2];decide)
 clear hv hv1 hv2
 have HM2:=Lib.hid hm
 clear hm hl
 obtain ⟨wx14,g14,hw_wx14,hg_g14,hb_wx14,hk_g14,hs_wx14⟩:=alloc_all w13 (.cells #[.int .i64 0,.int .i64 0,.int .i64 0,.int .i64 0,.int .i64 0,.int .i64 0,.int .i64 0,.int .i64 0,.int .i64 0,.int .i64 0,.int .i64 0,.int .i64 0,.int .i64 0,.int .i64 0,.int .i64 0,.int .i64 0,.int .i64 0,.int .i64 0] 69)
 obtain ⟨w14,hw_w14⟩:∃ w14,w14=wx14.setRow g14 (vmCells vm2).toArray:=⟨_,rfl⟩
 have hkz:w14.heap[g14]?=some (.cells (vmCells vm2).toArray 69 (0,0)):=by rw [hw_w14];exact setRow_heap _ _ _ _ _ _ hk_g14
 have hgz:=setRow_grown wx14 g14 (vmCells vm2).toArray
 rw [<-hw_w14] at hgz
 have HKX:=Lib.hid hk_g14
 replace HL:=Lib.hid (HL.out.alloc (bput hb_wx14 hgz (by omega) (Nat.le_refl _)) (by omega) hkz)
 clear hkz hgz hb_wx14 hk_g14
 skip
 go_wp2_with (first | (rw [<-hw_wx14,<-hg_g14];clear hw_wx14 hg_g14;refine wpList_store_row rfl 69 _ _ rfl g14 (vmCells vm2).toArray rfl rfl _ _ HKX.out (by rw [vmSize HM2.out];kernel_rfl) (by rw [vmSize HM2.out];rfl) (vm_one vm2) ?_;rw [<-hw_w14];clear hw_w14) | fail)
 refine (HL.out.tick (by omega) [] _ (slice0 _ _ _ _) (offNil _)).mono ?_
 rw [aw_r3,aw_e2]
 rintro e w15 ⟨ra3,rn3,rc3,G3,rfl,hn,hl⟩
 simp only at hn hl
 subst hn
 replace HL:=Lib.hid (hl)
 clear hl
 unfold krowV
 simp only
 go_wp2_with (go_at_call 17;refine num_at ?_)
 refine (HL.out.tick (by omega) [] _ (slice0 _ _ _ _) (offNil _)).mono ?_
 rw [aw_r4,aw_e3]
 rintro e w16 ⟨ra4,rn4,rc4,G4,rfl,hn,hl⟩
 simp only at hn hl
 have HN4:=Lib.hid hn
 replace HL:=Lib.hid (hl)
 clear hl hn
 unfold krowV
 simp only
 obtain ⟨w17,g17,hw_w17,hg_g17,hb_w17,hk_g17,hs_w17⟩:=alloc_all w16 (.cells #[.int .i64 3,.int .i64 1,.bool true,.int .i64 1,.slice ra4 rn4 rc4] 41)
 replace HL:=Lib.hid (HL.out.alloc hb_w17 (by omega) hk_g17)
 clear hb_w17 hk_g17 hs_w17
 have hbx:=(HL.out.box _ (List.mem_cons_of_mem _ (List.mem_cons_of_mem _ (List.mem_cons_of_mem _ (List.mem_cons_of_mem _ (List.mem_cons_self ..)))))).1
 simp only at hbx
 have xg8_0:=BlockIs.of hbx 0 (.int .i64 0) rfl
 have xg8_1:=BlockIs.of hbx 1 (.int .i64 0) rfl
 have xg8_2:=BlockIs.of hbx 2 (.bool false) rfl
 have xg8_3:=BlockIs.of hbx 3 (.int .i64 0) rfl
 have xg8_4:=BlockIs.of hbx 4 (.slice ra1 2 rc1) rfl
 clear hbx
 obtain ⟨w18,g18,hw_w18,hg_g18,hb_w18,hk_g18,hs_w18⟩:=alloc_all w17 (.cells #[.int .i64 1,.int .i64 0,.int .i64 0,.int .i64 3,.int .i64 1,.int .i64 1,.int .i64 0,.int .i64 2] 45)
 replace HL:=Lib.hid (HL.out.alloc hb_w18 (by omega) hk_g18)
 have HKE:Hid (EventsV w18 (.slice (some ⟨g18,0,none⟩) 2 2) [⟨1,0,0,3⟩,⟨1,1,0,2⟩]):=Lib.hid (events_blk [⟨1,0,0,3⟩,⟨1,1,0,2⟩] hk_g18 (by decide))
 clear hb_w18 hk_g18 hs_w18
 go_wp2_with (first | (go_at_call 17;refine num_at ?_) | (rw [<-hw_w17,<-hg_g17];clear hw_w17 hg_g17))
 rw [<-hw_w18,<-hg_g18]
 clear hw_w18 hg_g18
 clear xg8_0 xg8_1 xg8_2 xg8_3 xg8_4
 refine (sameRow_any ⟨0,0,false,0,[⟨1,0,0,3⟩,⟨1,1,0,2⟩]⟩ _ _ _ (EvRow.events (HL.out.row _ (List.mem_cons_of_mem _ (List.mem_cons_of_mem _ (List.mem_cons_of_mem _ (List.mem_cons_self ..))))).1 (by decide)) HKE.out).mono ?_
 rintro e w19 ⟨rfl,hb⟩
 replace HL:=Lib.hid (HL.out.grow hb)
 clear hb HKE
 have hbx:=(HL.out.box _ (List.mem_cons_of_mem _ (List.mem_cons_of_mem _ (List.mem_cons_of_mem _ (List.mem_cons_of_mem _ (List.mem_cons_self ..)))))).1
 simp only at hbx
 have xg10_0:=BlockIs.of hbx 0 (.int .i64 1) rfl
 have xg10_1:=BlockIs.of hbx 1 (.int .i64 0) rfl
 have xg10_2:=BlockIs.of hbx 2 (.bool false) rfl
 have xg10_3:=BlockIs.of hbx 3 (.int .i64 1) rfl
 have xg10_4:=BlockIs.of hbx 4 (.slice ra2 3 rc2) rfl
 clear hbx
 obtain ⟨w20,g20,hw_w20,hg_g20,hb_w20,hk_g20,hs_w20⟩:=alloc_all w19 (.cells #[.int .i64 8,.int .i64 0,.int .i64 0,.int .i64 7,.int .i64 4,.int .i64 0,.int .i64 0,.int .i64 2,.int .i64 0,.int .i64 (-1),.int .i64 (-1),.int .i64 1] 45)
 replace HL:=Lib.hid (HL.out.alloc hb_w20 (by omega) hk_g20)
 have HKE:Hid (EventsV w20 (.slice (some ⟨g20,0,none⟩) 3 3) [⟨8,0,0,7⟩,⟨4,0,0,2⟩,⟨0,-1,-1,1⟩]):=Lib.hid (events_blk [⟨8,0,0,7⟩,⟨4,0,0,2⟩,⟨0,-1,-1,1⟩] hk_g20 (by decide))
 clear hb_w20 hk_g20 hs_w20
 go_wp2_with (go_at_call 17;refine num_at ?_)
 rw [<-hw_w20,<-hg_g20]
 clear hw_w20 hg_g20
 clear xg10_0 xg10_1 xg10_2 xg10_3 xg10_4
 refine (sameRow_any ⟨1,0,false,1,[⟨8,0,0,7⟩,⟨4,0,0,2⟩,⟨0,-1,-1,1⟩]⟩ _ _ _ (EvRow.events (HL.out.row _ (List.mem_cons_of_mem _ (List.mem_cons_of_mem _ (List.mem_cons_self ..)))).1 (by decide)) HKE.out).mono ?_
 rintro e w21 ⟨rfl,hb⟩
 replace HL:=Lib.hid (HL.out.grow hb)
 clear hb HKE
 have hbx:=(HL.out.box _ (List.mem_cons_of_mem _ (List.mem_cons_of_mem _ (List.mem_cons_of_mem _ (List.mem_cons_of_mem _ (List.mem_cons_self ..)))))).1
 simp only at hbx
 have xg12_0:=BlockIs.of hbx 0 (.int .i64 vm1.pc) rfl
 have xg12_1:=BlockIs.of hbx 1 (.int .i64 vm1.acc) rfl
 clear hbx
 rw [show vm1.pc=0 by rw [HV1.out];exact aw_vm.2.1] at xg12_0
 rw [show vm1.acc=7 by rw [HV1.out];exact aw_vm.1] at xg12_1
 have hbx:=(HL.out.box _ (List.mem_cons_of_mem _ (List.mem_cons_of_mem _ (List.mem_cons_self ..)))).1
 simp only at hbx
 have xg17_1:=BlockIs.of hbx 1 (.int .i64 1) rfl
 have xg17_2:=BlockIs.of hbx 2 (.bool true) rfl
 clear hbx
 go_wp2_with (go_at_call 17;refine num_at ?_)
 refine (HL.out.callNow).mono ?_
 rw [aw_end.1]
 rintro e w' ⟨rfl,hw⟩
 subst w'
 go_wp2_with (go_at_call 17;refine num_at ?_)
 refine (HL.out.callLed).mono ?_
 rintro e w22 ⟨rfl,hl⟩
 replace HL:=Lib.hid (hl)
 clear hl
 unfold ledV
 rw [aw_end.2.1]
 have hfd:=fun w=>field_led1 w awK4.led.idle 1 awK4.led.lost awK4.led.last
 go_wp2_with (go_at_call 17;refine num_at ?_)
 refine (HL.out.callMode).mono ?_
 rintro e w23 ⟨rfl,hl⟩
 replace HL:=Lib.hid (hl)
 clear hl hfd
 unfold modV
 rw [aw_end.2.2.1]
 have hfd:=fun w=>field_mod0 w 1 awK4.mode.quiet awK4.mode.loud
 go_wp2_with (go_at_call 17;refine num_at ?_)
 refine (HL.out.callJobs 1 (by rw [aw_end.2.2.2.2];decide)).mono ?_
 rintro e w24 ⟨ja,jc,rfl,hl⟩
 replace HL:=Lib.hid (hl)
 clear hl hfd
 rw [aw_end.2.2.2.1]
 go_wp2_with fail
 go_ret
 exact ⟨rfl,HL.out.below⟩
end Go.Proofs.YtooeeiiiflfckaaGreat
