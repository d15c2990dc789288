/- Chapter 14's law JobTicks. -/
import Derived.Test.YtbkhnlacabaagaaLaw14b
import Derived.Test.YtbkhnlacabaagaaTickP
import Derived.Test.YtbkhnlacabaagaaMissP
import Derived.Deep.CutBlock
set_option linter.unusedVariables false
set_option linter.unusedSimpArgs false
namespace Go.Proofs.Ytbkhnlacabaagaa
open Go.RowKit

theorem mod8 (x : Int) : ∃ m : Nat, bits .and .i64 x 7 = (m : Int) ∧ m < 8 := by
  obtain ⟨y, hy⟩ := Int.eq_ofNat_of_zero_le (show 0 ≤ bits BinOp.and IntKind.i64 x 7 by rw [i64_and7]; omega)
  exact ⟨y, hy, by have := i64_and7 x; omega⟩
set_option maxRecDepth 100000 in
set_option maxHeartbeats 16000000 in
theorem jobTicks_any (p : Part) (pv : Value) (xs : List Int) (v : Value) (ys : List Int) (u : Value) (w : World) (hp : PartV w pv p) (hx : IntsV w v xs) (hy : IntsV w u ys) :
    Calls Try.prog 3 #[pv, v, u] w fun e w' => e = .returned (.bool true) ∧ Below w.heap.size w w' := by
  obtain ⟨tv, cv, rfl, hpi⟩ := hp
  obtain ⟨ta, tc, htv⟩ : ∃ a c, tv = .slice a p.tasks.length c := by obtain ⟨a, c, e, -⟩ := hpi.tasks; exact ⟨a, c, e⟩
  obtain ⟨tn, htn⟩ : ∃ n, n = p.tasks.length := ⟨_, rfl⟩
  rw [← htn] at htv
  subst htv
  have HX := Lib.hid hx
  have HY := Lib.hid hy
  have HPI := Lib.hid hpi
  have HTN := Lib.hid htn
  obtain ⟨xa, xc, rfl, hz1, hz2, hz3, -⟩ := id hx
  obtain ⟨ya, yc, rfl, hz4, hz5, hz6, -⟩ := id hy
  obtain ⟨xn, hxn⟩ : ∃ n, n = xs.length := ⟨_, rfl⟩
  obtain ⟨yn, hyn⟩ : ∃ n, n = ys.length := ⟨_, rfl⟩
  rw [← hxn] at HX ⊢
  rw [← hyn] at HY ⊢
  have HXN := Lib.hid (And.intro hxn hyn)
  obtain ⟨lvl, hlv⟩ : ∃ l, l = p.level := ⟨_, rfl⟩
  rw [← hlv]
  have HLV := Lib.hid hlv
  clear hx hy hpi hz1 hz2 hz3 hz4 hz5 hz6 hxn hyn htn hlv
  obtain ⟨wa, hw_wa⟩ : ∃ wa, wa = w.alloc (.cells #[.int .i64 lvl, .slice ta tn tc, cv] 25) := ⟨_, rfl⟩
  obtain ⟨ga, hg_ga⟩ : ∃ ga, ga = w.heap.size := ⟨_, rfl⟩
  have hb_wa : Below w.heap.size w wa := by rw [hw_wa]; exact balloc _ _
  have hk_ga : wa.heap[ga]? = some (.cells #[.int .i64 lvl, .slice ta tn tc, cv] 25 (0, 0)) := by rw [hw_wa, hg_ga]; exact blk_new _ _
  have hs_wa : wa.heap.size = w.heap.size + 1 := by rw [hw_wa]; simp
  subst hg_ga
  have HBA := Lib.hid hb_wa
  have HKA := Lib.hid hk_ga
  clear hb_wa hk_ga hs_wa
  go_enter Try.func3, Try.ntmps3
  go_wp2_with fail
  rw [← hw_wa]
  clear hw_wa
  refine (awake14 _).mono ?_
  rintro e w1 ⟨rfl, hb⟩
  have HB1 := Lib.hid (bthen HBA.out hb)
  have HKA1 := Lib.hid (keep_at HKA.out hb)
  clear hb
  have a0 := BlockIs.of HKA1.out 0 _ rfl
  have a1 := BlockIs.of HKA1.out 1 _ rfl
  have a2 := BlockIs.of HKA1.out 2 _ rfl
  have HPI1 := Lib.hid (HPI.out.ext (Ext.below HB1.out))
  cases hbad : newBad 0 p
  rotate_left
  · have HBAD := Lib.hid hbad
    clear hbad
    go_wp2_with fail
    rw [show lvl = p.level from HLV.out]
    refine (new_no 0 p _ _ _ HPI1.out HBAD.out).mono ?_
    rintro e w2 ⟨rfl, hb⟩
    have HB2 := Lib.hid (bthen HB1.out hb)
    clear hb a0 a1 a2
    go_wp2_with (first | (go_at_call 12; refine (num_any _ _).mono ?_; rintro e w' ⟨rfl, hw⟩; subst w') | fail)
    go_ret
    exact ⟨rfl, HB2.out⟩
  · have HBAD := Lib.hid hbad
    clear hbad
    go_wp2_with fail
    rw [show lvl = p.level from HLV.out]
    refine (new_is 0 p _ _ _ HPI1.out HBAD.out).mono ?_
    rintro e w2 ⟨b0, rfl, hl, hb⟩
    have HL2 := Lib.hid hl
    have HB2 := Lib.hid (bthen HB1.out hb)
    have HKA2 := Lib.hid (keep_at HKA1.out hb)
    have HKL := Lib.hid (lt_of_block HKA1.out)
    obtain ⟨lo, hlo⟩ : ∃ lo, lo = w1.heap.size := ⟨_, rfl⟩
    have HLO := Lib.hid (show w.heap.size ≤ lo by rw [hlo]; exact HB1.out.size)
    rw [← hlo] at HL2 HKL
    clear hl hb hlo a0 a1 a2 HB1 HKA HKA1 HPI1
    go_wp2_with (first | (go_at_call 12; refine (num_any _ _).mono ?_; rintro e w' ⟨rfl, hw⟩; subst w') | fail)
    go_loopw [9, 10, 11] (fun cm gm i wr => ∃ (q c g : Nat) (S : LSt), q ≤ 80 ∧ i = .int .i64 q ∧ cm = .int .i64 c ∧ gm = .int .i64 g ∧ c ≤ 6 * q ∧ c = g + S.js.length ∧ Hid (LocIs wr b0 lo S (6 * (q : Int))) ∧ Hid (LInv S q) ∧ Hid (Below lo w2 wr)) (fun _ _ i _ => 80 - (intOf i).toNat)
    case atStart => exact ⟨0, 0, 0, newL 0 p, by omega, rfl, rfl, rfl, by omega, rfl, HL2, Lib.hid (new_inv 0 p (by omega)), Lib.hid (Below.refl _ _)⟩
    case round =>
      obtain ⟨q, c, g, S, hq, rfl, rfl, rfl, hc6, hcg, HL, HI, HB⟩ := hrel
      have HCG := Lib.hid hcg
      clear hcg
      by_cases hq80 : q < 80
      rotate_left
      · obtain rfl : q = 80 := by omega
        go_wp2_with fail
        go_ret
        exact ⟨rfl, HB2.out.trans (HB.out.mono HLO.out)⟩
      · have hq8 : (q : Int) < 80 := by omega
        have HKR := Lib.hid ((HB.out.block _ HKL.out).trans HKA2.out)
        have a1 := BlockIs.of HKR.out 1 _ rfl
        go_upto_region 10 with (fail)
        go_cut [55] (fun s wx => ∃ bb : Bool, s = .bool bb ∧ (bb = true → q < yn) ∧ ∃ n, wx = wr.drewN n)
        case first =>
          by_cases h1 : q < yn
          · have c1 : (q : Int) < (yn : Int) := by omega
            have hyl : q < ys.length := by rw [← HXN.out.2]; exact h1
            obtain ⟨y, hyy⟩ : ∃ y, y = ys[q] := ⟨_, rfl⟩
            obtain ⟨m, hm, hm8⟩ := mod8 y
            obtain ⟨yb, yo, ec, z0⟩ : ∃ q' off, Value.slice ya yn yc = .slice (some ⟨q', off, none⟩) yn yc ∧ IntAt wr q' (off + q) y := by
              obtain ⟨b, off, cap, e, hc⟩ := (HY.out.ext (Ext.below (HB2.out.trans (HB.out.mono HLO.out)))).get hyl
              injection e with e _ _
              exact ⟨b, off, by rw [e], by rw [hyy]; exact hc⟩
            injection ec with ec _ _
            subst ec
            unfold IntAt at z0
            clear hyy
            go_quiet (fail)
            go_wp2_with fail
            go_meet
            exact ⟨_, rfl, (fun _ => h1), _, rfl⟩
          · have c1 : ¬ (q : Int) < (yn : Int) := by omega
            go_quiet (fail)
            go_wp2_with fail
            go_meet
            exact ⟨false, rfl, (fun h => by cases h), _, rfl⟩
        case rest =>
          obtain ⟨bb, rfl, hbb, nd, hwc⟩ := hcut
          have hbd : Below wr.heap.size wr wc := by rw [hwc]; exact below_drewN (Below.refl _ _) _
          have HLc := Lib.hid (HL.out.keep hbd)
          have HBc := Lib.hid (HB.out.trans (hbd.mono (Nat.le_trans HL2.out.lo HB.out.size)))
          have HBB := Lib.hid hbb
          clear hwc hbd hbb a1 HL HB HKR
          go_upto_if 55 with (fail)
          go_cut [11] (fun s wx => s = .int .i64 q ∧ ∃ S1 : LSt, S1.js.length = S.js.length ∧ Hid (LocIs wx b0 lo S1 (6 * (q : Int))) ∧ Hid (LInv S1 q) ∧ Hid (Below lo w2 wx))
          case first =>
            cases bb
            · go_wp2_with fail
              go_meet
              exact ⟨rfl, S, rfl, HLc, HI, HBc⟩
            · have h1 := HBB.out rfl
              have c1 : (q : Int) < (yn : Int) := by omega
              have hyl : q < ys.length := by rw [← HXN.out.2]; exact h1
              obtain ⟨y, hyy⟩ : ∃ y, y = ys[q] := ⟨_, rfl⟩
              obtain ⟨m, hm, hm8⟩ := mod8 y
              obtain ⟨yb, yo, ec, z0⟩ : ∃ q' off, Value.slice ya yn yc = .slice (some ⟨q', off, none⟩) yn yc ∧ IntAt wc q' (off + q) y := by
                obtain ⟨b, off, cap, e, hc⟩ := (HY.out.ext (Ext.below (HB2.out.trans (HBc.out.mono HLO.out)))).get hyl
                injection e with e _ _
                exact ⟨b, off, by rw [e], by rw [hyy]; exact hc⟩
              injection ec with ec _ _
              subst ec
              unfold IntAt at z0
              clear hyy
              go_wp2_with fail
              refine region_tail 14 (by kernel_rfl) (by kernel_rfl) ?_
              intro wy hy hby
              have HBY := Lib.hid hby
              have HLY := Lib.hid (HLc.out.keep hby)
              have z1 := Ext.below hby _ _ z0
              clear hy hby z0
              simp only [List.take_succ_cons, List.take_zero, List.drop_succ_cons, List.drop_zero]
              repeat still_step
              refine wpStill_nil ?_
              go_wp2_with fail
              obtain ⟨dm, hdm⟩ : ∃ dm, dm = wrap64 (1 + bits BinOp.and IntKind.i64 (y / 8) 15) := ⟨_, rfl⟩
              rw [← hdm]
              have HDM := Lib.hid hdm
              clear hdm
              refine (pick_is b0 lo S (6 * (q : Int)) m dm q _ HLY.out).mono ?_
              rintro e w4 ⟨ra, rn, rc, rfl, hl, hr, hk⟩
              have HL4 := Lib.hid hl
              have HB4 := Lib.hid ((HBc.out.trans (HBY.out.mono (by exact HLc.out.lo))).trans hk.below)
              clear hl hr hk z1
              go_wp2_with fail
              go_meet
              exact ⟨rfl, pickSt S m dm q, by rw [(pickSt_len S m dm q).2.2.2], HL4, Lib.hid (pick_inv HI.out m dm q), HB4⟩
          case rest =>
            obtain ⟨rfl, S1, hjs, HL1, HI1, HB1⟩ := hcut
            have HJS := Lib.hid hjs
            clear hjs HLc HBc HI HBB
            have HCL := Lib.hid (clockYes (x := (q : Int)) (by omega) (by omega))
            obtain ⟨hI2, hD2, ea, eb, hE, hka, hkb, hln, hla, hlb⟩ := begin_inv HL1.out.wf HCL.out HI1.out
            have HI2 := Lib.hid (And.intro hI2 hD2)
            have HE := Lib.hid (And.intro hE (And.intro hka hkb))
            have HLN := Lib.hid hln
            clear hI2 hD2 hE hka hkb hln
            go_wp2_with fail
            refine (begin_is b0 lo S1 (6 * (q : Int)) q _ HL1.out (by omega) HCL.out).mono ?_
            rintro e w4 ⟨ra, rn, rc, rfl, hl, hr, hk⟩
            rw [HE.out.1] at hr
            obtain rfl : rn = ea.length + eb.length := by obtain ⟨_, _, qq⟩ := own_shape hr; injection qq with _ qq _; rw [qq, List.length_append]
            have HL4 := Lib.hid (show LocIs w4 b0 lo (begS S1 q) (6 * ((q + 1 : Nat) : Int)) by rw [show (6 * ((q + 1 : Nat) : Int)) = 6 * (q : Int) + 6 by omega]; exact hl)
            have HB4 := Lib.hid (HB1.out.trans hk.below)
            have HR4 := Lib.hid hr
            obtain ⟨S2, hS2⟩ : ∃ S2, S2 = begS S1 q := ⟨_, rfl⟩
            rw [← hS2] at HL4 HI2 HLN
            obtain ⟨an, han⟩ : ∃ n, n = ea.length := ⟨_, rfl⟩
            obtain ⟨bn, hbn⟩ : ∃ n, n = eb.length := ⟨_, rfl⟩
            have HAN := Lib.hid (And.intro han hbn)
            rw [← han] at hla HLN
            rw [← hbn] at hlb HLN
            rw [← han, ← hbn]
            clear hl hr hk hS2 han hbn HL1 HI1 HB1
            go_wp2_with (first | (go_at_call 12; refine (num_any _ _).mono ?_; rintro e w' ⟨rfl, hw⟩; subst w') | fail)
            have hgc : g ≤ c := by have := HCG.out; omega
            go_loopw [9, 10, 14] (fun cm gm i wx => ∃ z : Nat, z ≤ an + bn ∧ i = .int .i64 z ∧ cm = .int .i64 ((c + (z - an) : Nat) : Int) ∧ gm = .int .i64 ((g + min z an : Nat) : Int) ∧ Hid (Below w4.heap.size w4 wx)) (fun _ _ i _ => an + bn - (intOf i).toNat)
            case atStart => exact ⟨0, by omega, rfl, by rw [Nat.zero_sub]; rfl, by rw [Nat.zero_min]; rfl, Lib.hid (Below.refl _ _)⟩
            case round =>
              obtain ⟨z, hz, rfl, rfl, rfl, HX4⟩ := hrel
              by_cases hlt : z < an + bn
              · have c1 : (z : Int) < (an : Int) + (bn : Int) := by omega
                have hzl : z < (ea ++ eb).length := by rw [List.length_append, ← HAN.out.1, ← HAN.out.2]; exact hlt
                obtain ⟨kd, hkd⟩ : ∃ kd : Int, kd = if z < an then 3 else 1 := ⟨_, rfl⟩
                obtain ⟨eq, eo, ee, y0⟩ : ∃ q' o, Value.slice ra (an + bn) rc = .slice (some ⟨q', o, none⟩) (an + bn) rc ∧ IntAt wr q' (o + z * 4) kd := by
                  obtain ⟨a, cc, e, -, -, -, hq⟩ := EvRow.events HR4.out (by rw [List.length_append, ← HAN.out.1, ← HAN.out.2]; omega)
                  obtain ⟨q', o, e2, hq2⟩ := hq (by intro h; rw [h] at hzl; simp at hzl)
                  injection e with e _ _
                  refine ⟨q', o, by rw [e, e2], ?_⟩
                  have h0 := (hq2 z hzl).1.ext (Ext.below HX4.out)
                  have e3 : (ea ++ eb)[z].kind = kd := by
                    rw [hkd]
                    by_cases hza : z < an
                    · rw [if_pos hza, List.getElem_append_left (by rw [← HAN.out.1]; exact hza)]
                      exact HE.out.2.1 _ (List.getElem_mem _)
                    · rw [if_neg hza, List.getElem_append_right (by rw [← HAN.out.1]; omega)]
                      exact HE.out.2.2 _ (List.getElem_mem _)
                  rw [e3] at h0
                  exact h0
                injection ee with ee _ _
                subst ee
                unfold IntAt at y0
                by_cases hza : z < an
                · rw [if_pos hza] at hkd
                  subst hkd
                  have w1' : IntKind.i64.wrap (((g + min z an : Nat) : Int) + 1) = ((g + min (z + 1) an : Nat) : Int) := by rw [IntKind.wrap_i64]; omega
                  obtain ⟨gz, hgz⟩ : ∃ gz, gz = g + min z an := ⟨_, rfl⟩
                  obtain ⟨gy, hgy⟩ : ∃ gy, gy = g + min (z + 1) an := ⟨_, rfl⟩
                  obtain ⟨cz, hcz⟩ : ∃ cz, cz = c + (z - an) := ⟨_, rfl⟩
                  have HGY := Lib.hid (show gy = g + min (z + 1) an ∧ cz = c + (z + 1 - an) by omega)
                  rw [← hgz, ← hgy] at w1'
                  rw [← hgz, ← hcz]
                  clear hgz hgy hcz
                  go_wp2_with fail
                  go_roundw
                  case rel => exact ⟨z + 1, by omega, by go_num, by rw [← HGY.out.2], by rw [← HGY.out.1], HX4⟩
                  case measure => simp [intOf]; omega
                · rw [if_neg hza] at hkd
                  subst hkd
                  have w1' : IntKind.i64.wrap (((c + (z - an) : Nat) : Int) + 1) = ((c + (z + 1 - an) : Nat) : Int) := by rw [IntKind.wrap_i64]; omega
                  obtain ⟨cz, hcz⟩ : ∃ cz, cz = c + (z - an) := ⟨_, rfl⟩
                  obtain ⟨cy, hcy⟩ : ∃ cy, cy = c + (z + 1 - an) := ⟨_, rfl⟩
                  obtain ⟨gz, hgz⟩ : ∃ gz, gz = g + min z an := ⟨_, rfl⟩
                  have HGY := Lib.hid (show cy = c + (z + 1 - an) ∧ gz = g + min (z + 1) an by omega)
                  rw [← hcz, ← hcy] at w1'
                  rw [← hgz, ← hcz]
                  clear hgz hcy hcz
                  go_wp2_with fail
                  go_roundw
                  case rel => exact ⟨z + 1, by omega, by go_num, by rw [← HGY.out.1], by rw [← HGY.out.2], HX4⟩
                  case measure => simp [intOf]; omega
              · obtain rfl : z = an + bn := by omega
                obtain ⟨c2, hc2⟩ : ∃ c2, c2 = c + (an + bn - an) := ⟨_, rfl⟩
                obtain ⟨g2, hg2⟩ : ∃ g2, g2 = g + min (an + bn) an := ⟨_, rfl⟩
                have HC2 := Lib.hid (show c2 = g2 + S2.js.length ∧ c2 ≤ 6 * (q + 1) by have := HCG.out; have := HJS.out; have := HLN.out; omega)
                rw [← hc2, ← hg2]
                have HL5 := Lib.hid (HL4.out.keep HX4.out)
                have HB5 := Lib.hid (HB4.out.trans (HX4.out.mono (HL4.out.lo)))
                clear hc2 hg2 HL4 HB4 HR4 HX4 HLN HE HAN hla hlb hlt hz HCG HJS hgc
                go_upto_region 21 with (fail)
                go_cut [111] (fun s wx => ∃ rr : Bool, s = .bool rr ∧ (rr = true → 0 < S2.js.length) ∧ Hid (Below wr.heap.size wr wx))
                case first =>
                  by_cases h1 : q < xn
                  · have c1 : (q : Int) < (xn : Int) := by omega
                    have hxl : q < xs.length := by rw [← HXN.out.1]; exact h1
                    obtain ⟨x, hxx⟩ : ∃ x, x = xs[q] := ⟨_, rfl⟩
                    obtain ⟨xb, xo, ec, z0⟩ : ∃ q' off, Value.slice xa xn xc = .slice (some ⟨q', off, none⟩) xn xc ∧ IntAt wr q' (off + q) x := by
                      obtain ⟨b, off, cap, e, hc⟩ := (HX.out.ext (Ext.below (HB2.out.trans (HB5.out.mono HLO.out)))).get hxl
                      injection e with e _ _
                      exact ⟨b, off, by rw [e], by rw [hxx]; exact hc⟩
                    injection ec with ec _ _
                    subst ec
                    unfold IntAt at z0
                    obtain ⟨pb, hpb⟩ : ∃ pb, (bits BinOp.and IntKind.i64 x 1 == 1) = pb := ⟨_, rfl⟩
                    clear hxx
                    cases pb
                    · go_wp2_with fail
                      go_meet
                      exact ⟨false, rfl, (fun h => by cases h), Lib.hid (Below.refl _ _)⟩
                    · go_wp2_with fail
                      refine (ready_is b0 lo S2 _ _ HL5.out).mono ?_
                      rintro e w' ⟨rfl, hw⟩
                      subst w'
                      go_wp2_with fail
                      go_meet
                      exact ⟨_, rfl, (fun h => of_decide_eq_true h), Lib.hid (Below.refl _ _)⟩
                  · have c1 : ¬ (q : Int) < (xn : Int) := by omega
                    go_wp2_with fail
                    go_meet
                    exact ⟨false, rfl, (fun h => by cases h), Lib.hid (Below.refl _ _)⟩
                case rest =>
                  obtain ⟨rr, rfl, hrr, HXC⟩ := hcut
                  have HRR := Lib.hid hrr
                  have HL6 := Lib.hid (HL5.out.keep HXC.out)
                  have HB6 := Lib.hid (HB5.out.trans (HXC.out.mono HL5.out.lo))
                  clear hrr HL5 HB5 HXC
                  go_upto_if 111 with (fail)
                  go_cut [10] (fun gm wx => ∃ (g3 : Nat) (S3 : LSt), gm = .int .i64 g3 ∧ c2 = g3 + S3.js.length ∧ Hid (LocIs wx b0 lo S3 (6 * ((q + 1 : Nat) : Int))) ∧ Hid (LInv S3 ((q : Int) + 1)) ∧ Hid (∀ j ∈ S3.js, (q : Int) < j.deadline ∧ j.release ≤ (q : Int)) ∧ Hid (Below lo w2 wx))
                  case first =>
                    cases rr
                    · go_wp2_with fail
                      go_meet
                      exact ⟨g2, S2, rfl, HC2.out.1, HL6, Lib.hid HI2.out.1, Lib.hid HI2.out.2, HB6⟩
                    · have hpos := HRR.out rfl
                      have HRN := Lib.hid (run_len hpos)
                      have HRE := Lib.hid (show runE S2 = 0 by unfold runE; cases h : S2.js with | nil => rw [h] at hpos; simp at hpos | cons a r => rfl)
                      have HPS := Lib.hid hpos
                      clear hpos
                      go_wp2_with fail
                      refine (run_is b0 lo S2 _ _ HL6.out).mono ?_
                      rw [HRE.out]
                      obtain ⟨vo, hvo⟩ : ∃ b, b = (runV S2).over := ⟨_, rfl⟩
                      obtain ⟨vd, hvd⟩ : ∃ b, b = (runV S2).done := ⟨_, rfl⟩
                      obtain ⟨vk, hvk⟩ : ∃ b, b = (runV S2).kill := ⟨_, rfl⟩
                      unfold vdV
                      rw [← hvo, ← hvd, ← hvk]
                      rw [← hvd, ← hvk] at HRN
                      rintro e w7 ⟨ra7, rn7, rc7, rfl, hl, hr, hk⟩
                      obtain ⟨w8, hw_w8⟩ : ∃ w8, w8 = w7.alloc (.cells #[.bool vo, .bool vd, .bool vk] 41) := ⟨_, rfl⟩
                      obtain ⟨g8, hg_g8⟩ : ∃ g8, g8 = w7.heap.size := ⟨_, rfl⟩
                      have hb_w8 : Below w7.heap.size w7 w8 := by rw [hw_w8]; exact balloc _ _
                      have hk_g8 : w8.heap[g8]? = some (.cells #[.bool vo, .bool vd, .bool vk] 41 (0, 0)) := by rw [hw_w8, hg_g8]; exact blk_new _ _
                      have hs_w8 : w8.heap.size = w7.heap.size + 1 := by rw [hw_w8]; simp
                      have HL8 := Lib.hid (hl.keep hb_w8)
                      have HB8 := Lib.hid (HB6.out.trans (hk.below.trans (hb_w8.mono (Nat.le_trans HL6.out.lo hk.below.size))))
                      have v1 := BlockIs.of hk_g8 1 _ rfl
                      have v2 := BlockIs.of hk_g8 2 _ rfl
                      subst hg_g8
                      have hgw : IntKind.i64.wrap ((g2 : Int) + 1) = ((g2 + 1 : Nat) : Int) := by rw [IntKind.wrap_i64]; have := HC2.out; omega
                      clear hl hr hk hb_w8 hk_g8 hs_w8 hvo hvd hvk
                      have HJI := Lib.hid (run_job (S := S2) (P := fun r d => (q : Int) < d ∧ r ≤ (q : Int)) HI2.out.2)
                      cases vd
                      · cases vk
                        · go_wp2_with (first | (go_at_call 12; refine (num_any _ _).mono ?_; rintro e w' ⟨rfl, hw⟩; subst w'; rw [← hw_w8]; clear hw_w8) | fail)
                          go_meet
                          exact ⟨g2, runS S2, rfl, by have h1 := HRN.out; have := HC2.out; (try simp only [Bool.or_self, Bool.false_eq_true, if_false] at h1); omega, HL8, Lib.hid (run_inv HI2.out.1), HJI, HB8⟩
                        · go_wp2_with (first | (go_at_call 12; refine (num_any _ _).mono ?_; rintro e w' ⟨rfl, hw⟩; subst w'; rw [← hw_w8]; clear hw_w8) | fail)
                          go_meet
                          exact ⟨g2 + 1, runS S2, rfl, by have h1 := HRN.out; have := HC2.out; have := HPS.out; (try simp only [Bool.or_true, if_true] at h1); omega, HL8, Lib.hid (run_inv HI2.out.1), HJI, HB8⟩
                      · go_wp2_with (first | (go_at_call 12; refine (num_any _ _).mono ?_; rintro e w' ⟨rfl, hw⟩; subst w'; rw [← hw_w8]; clear hw_w8) | fail)
                        go_meet
                        exact ⟨g2 + 1, runS S2, rfl, by have h1 := HRN.out; have := HC2.out; have := HPS.out; (try simp only [Bool.true_or, if_true] at h1); omega, HL8, Lib.hid (run_inv HI2.out.1), HJI, HB8⟩
                  case rest =>
                    obtain ⟨g3, S3, rfl, hc3, HL7, HI7, HD7, HB7⟩ := hcut
                    have HJD := Lib.hid (And.intro HD7.out HI7.out.nd)
                    have hc3' : g3 ≤ c2 := by omega
                    have hcb : c2 ≤ 600 := by have := HC2.out.2; omega
                    go_wp2_with fail
                    refine (jobs_is b0 lo S3 _ _ HL7.out).mono ?_
                    rintro e w8 ⟨jv, rfl, hj, hb⟩
                    obtain ⟨ja, jc, hjv⟩ := own_shape hj
                    have hjm := ((jobsMay_iff _).1 HL7.out.wf.js).2
                    have HJV := Lib.hid (JobRow.jobs hj (by omega))
                    obtain ⟨jn, hjn⟩ : ∃ n, n = S3.js.length := ⟨_, rfl⟩
                    rw [← hjn] at hjv hjm hc3
                    subst hjv
                    have HJN := Lib.hid hjn
                    have HL8 := Lib.hid (HL7.out.keep hb)
                    have HB8 := Lib.hid (HB7.out.trans (hb.mono HL7.out.lo))
                    have hws : IntKind.i64.wrap ((c2 : Int) - (g3 : Int)) = (jn : Int) := by rw [IntKind.wrap_i64]; omega
                    have HC3 := Lib.hid hc3
                    clear hj hb hjn HL7 HB7 HD7 hc3 hc3'
                    go_wp2_with fail
                    clear hws
                    go_loopw [19] (fun i wx => ∃ z : Nat, z ≤ jn ∧ i = .int .i64 z ∧ Hid (Below w8.heap.size w8 wx)) (fun i _ => jn - (intOf i).toNat)
                    case atStart => exact ⟨0, by omega, rfl, Lib.hid (Below.refl _ _)⟩
                    case round =>
                      obtain ⟨z, hz, rfl, HZ⟩ := hrel
                      by_cases hzj : z < jn
                      · have c1 : (z : Int) < (jn : Int) := by omega
                        have hzl : z < S3.js.length := by rw [← HJN.out]; exact hzj
                        obtain ⟨jb, jo, ej, HJC⟩ : ∃ q' o, Value.slice ja jn jc = .slice (some ⟨q', o, none⟩) jn jc ∧ Hid (∀ i (h : i < S3.js.length), JobAt w8 q' (o + i * 7) S3.js[i]) := by
                          obtain ⟨a, cc, e, -, -, -, hq⟩ := HJV.out
                          obtain ⟨q', o, e2, hq2⟩ := hq (by intro h; rw [h] at hzl; simp at hzl)
                          injection e with e _ _
                          exact ⟨q', o, by rw [e, e2], Lib.hid hq2⟩
                        injection ej with ej _ _
                        subst ej
                        go_wp2_with fail
                        go_loopw [20] (fun k wx => ∃ y : Nat, y ≤ z ∧ k = .int .i64 y ∧ Hid (Below w8.heap.size w8 wx)) (fun k _ => z - (intOf k).toNat)
                        case atStart => exact ⟨0, by omega, rfl, HZ⟩
                        case round =>
                          obtain ⟨y, hy, rfl, HY8⟩ := hrel
                          by_cases hyz : y < z
                          · have c2' : (y : Int) < (z : Int) := by omega
                            have c3' : (y : Int) < (jn : Int) := by omega
                            have hyl : y < S3.js.length := by omega
                            obtain ⟨y0, -, -, -, -, -, -⟩ := (HJC.out y hyl).ext (Ext.below HY8.out)
                            obtain ⟨z0, -, -, -, -, -, -⟩ := (HJC.out z hzl).ext (Ext.below HY8.out)
                            unfold IntAt at y0 z0
                            have hne : (S3.js[y].task == S3.js[z].task) = false := by
                              rw [beq_eq_false_iff_ne]
                              intro e
                              have h1 := HJD.out.2
                              have h2 : (S3.js.map (·.task))[y]'(by simpa using hyl) = (S3.js.map (·.task))[z]'(by simpa using hzl) := by simpa using e
                              have := (List.getElem_inj h1).1 h2
                              omega
                            obtain ⟨t1, ht1⟩ : ∃ t, t = S3.js[y].task := ⟨_, rfl⟩
                            obtain ⟨t2, ht2⟩ : ∃ t, t = S3.js[z].task := ⟨_, rfl⟩
                            rw [← ht1] at y0 hne
                            rw [← ht2] at z0 hne
                            clear ht1 ht2
                            go_wp2_with fail
                            go_quiet (fail)
                            go_wp2_with fail
                            go_roundw
                            case rel => exact ⟨y + 1, by omega, by go_num, Lib.hid (below_drewN HY8.out _)⟩
                            case measure => simp [intOf]; omega
                          · obtain rfl : y = z := by omega
                            obtain ⟨-, -, -, z3, z4, -, -⟩ := (HJC.out y hzl).ext (Ext.below HY8.out)
                            unfold IntAt at z3 z4
                            obtain ⟨hd1, hd2⟩ := HJD.out.1 _ (List.getElem_mem hzl)
                            obtain ⟨rl, hrl⟩ : ∃ t, t = S3.js[y].release := ⟨_, rfl⟩
                            obtain ⟨dl, hdl⟩ : ∃ t, t = S3.js[y].deadline := ⟨_, rfl⟩
                            rw [← hrl] at z3 hd2
                            rw [← hdl] at z4 hd1
                            have d1 : ¬ dl ≤ (q : Int) := by omega
                            have d2 : ¬ (q : Int) < rl := by omega
                            clear hrl hdl hd1 hd2
                            go_wp2_with fail
                            go_roundw
                            case rel => exact ⟨y + 1, by omega, by go_num, HY8⟩
                            case measure => simp [intOf]; omega
                      · obtain rfl : z = jn := by omega
                        have HL9 := Lib.hid (HL8.out.keep HZ.out)
                        have HB9 := Lib.hid (HB8.out.trans (HZ.out.mono HL8.out.lo))
                        go_wp2_with fail
                        go_roundw
                        case rel => exact ⟨q + 1, c2, g3, S3, by omega, by go_num, rfl, rfl, HC2.out.2, by rw [HC3.out, HJN.out], HL9, Lib.hid (by have h := HI7.out; rw [show ((q : Int) + 1) = ((q + 1 : Nat) : Int) by omega] at h; exact h), HB9⟩
                        case measure => simp [intOf]; omega
end Go.Proofs.Ytbkhnlacabaagaa
