/- The law ViewRows. -/
import Derived.Test.YtjhhncahlijohaaLaw23d
import Derived.Test.YtjhhncahlijohaaRegI
import Derived.Deep.RegionHeld3
set_option linter.unusedVariables false
set_option linter.unusedSimpArgs false
namespace Go.Proofs.Ytjhhncahlijohaa
open Go.RowKit

theorem HighRes.shape {W : World} {B : Nat} {v : Value} {o : Option (List Glance)} (h : HighRes W B v o) : ∃ gv n, v = .tuple #[gv, .int .i64 n] := by
  cases o with
  | none => exact ⟨_, _, h⟩
  | some xs =>
    obtain ⟨gv, h, -⟩ := h
    exact ⟨_, _, h⟩
theorem highSpec_take {c : Config} {rs : List Row} (K : Nat) (h : highSpec c rs = some (rs.map (glanceOf c))) : highSpec c (rs.take K) = some ((rs.take K).map (glanceOf c)) := by
  unfold highSpec at h ⊢
  split at h
  · cases h
  · rename_i hn
    rw [if_neg]
    rintro (e | e)
    · exact hn (Or.inl e)
    · refine hn (Or.inr ?_)
      unfold rowsBad at e ⊢
      rw [List.any_eq_true] at e ⊢
      obtain ⟨x, hx, hp⟩ := e
      exact ⟨x, List.mem_of_mem_take hx, hp⟩
theorem highSpec_some {c : Config} {rs : List Row} {xs : List Glance} (h : highSpec c rs = some xs) : xs = rs.map (glanceOf c) ∧ ∀ i (hi : i < rs.length), glanceSpec c rs[i] = some (glanceOf c rs[i]) := by
  unfold highSpec at h
  split at h
  · cases h
  · rename_i hn
    injection h with h
    refine ⟨h.symm, fun i hi => ?_⟩
    unfold glanceSpec
    rw [if_neg]
    rintro (e | e | e)
    · exact hn (Or.inl e)
    · exact hn (Or.inr (rowsBad_at c rs i hi (Or.inl e)))
    · exact hn (Or.inr (rowsBad_at c rs i hi (Or.inr e)))
set_option maxRecDepth 100000 in
set_option maxHeartbeats 4000000 in
theorem viewRows_any (c : Config) (v : Value) (rs : List Row) (rv : Value) (cut : Int) (w : World) (hc : CfgV w v c) (hr : RowsV w rv rs) :
    Calls Try.prog 5 #[v, rv, .int .i64 cut] w fun e w' => e = .returned (.bool true) ∧ Below w.heap.size w w' := by
  obtain ⟨pv, wv, ov, rfl, hcfg⟩ := hc
  obtain ⟨ra, rc, rfl, h1, h2, h3, -⟩ := id hr
  have k1 := cfg_box w c _ _ _ 26 hcfg
  obtain ⟨wa, hw_wa⟩ : ∃ wa, wa = w.alloc (.cells #[.int .i64 c.frame, .int .i64 c.quiet, pv, wv, ov] 26) := ⟨_, rfl⟩
  obtain ⟨ga, hg_ga⟩ : ∃ ga, ga = w.heap.size := ⟨_, rfl⟩
  have hb_wa : Below w.heap.size w wa := by rw [hw_wa]; exact balloc _ _
  have hk_ga : wa.heap[ga]? = some (.cells #[.int .i64 c.frame, .int .i64 c.quiet, pv, wv, ov] 26 (0, 0)) := by rw [hw_wa, hg_ga]; exact blk_new _ _
  have hs_wa : wa.heap.size = w.heap.size + 1 := by rw [hw_wa]; simp
  rw [← hw_wa, ← hg_ga] at k1
  have HB := Lib.hid hb_wa
  have HC := Lib.hid k1
  have HR := Lib.hid (hr.ext (Ext.below hb_wa))
  have hrl : rs.length ≤ 2513169434845 := by omega
  obtain ⟨N, hN⟩ : ∃ N, N = rs.length := ⟨_, rfl⟩
  have HGA := Lib.hid hg_ga
  clear k1 hk_ga hb_wa hcfg hs_wa hr
  go_enter Try.func5, Try.ntmps5
  go_wp2_with fail
  rw [← hw_wa, ← hg_ga]
  clear hw_wa hg_ga
  refine (awake23_any _).mono ?_
  rintro e w1 ⟨rfl, hb1⟩
  have HB1 := Lib.hid (bthen HB.out hb1)
  have HC1 := Lib.hid (HC.out.ext (Ext.below hb1))
  have HR1 := Lib.hid (HR.out.ext (Ext.below hb1))
  clear hb1 HB HC HR
  obtain ⟨q, hq⟩ := Int.eq_ofNat_of_zero_le (show 0 ≤ IntKind.u64.wrap cut by rw [IntKind.wrap_u64]; omega)
  obtain ⟨K, hK⟩ : ∃ K, K = q % (rs.length + 1) := ⟨_, rfl⟩
  have hKl : K ≤ rs.length := by have := Nat.mod_lt q (show 0 < rs.length + 1 by omega); omega
  have w1' : IntKind.u64.wrap ((rs.length : Int) + 1) = (rs.length : Int) + 1 := by rw [IntKind.wrap_u64]; omega
  have hm1 : (q : Int).tmod ((rs.length : Int) + 1) = (K : Int) := by rw [Int.tmod_eq_emod_of_nonneg (by omega), hK]; rfl
  have hm2 : (q : Int) % ((rs.length : Int) + 1) = (K : Int) := by rw [hK]; rfl
  have w2' : IntKind.u64.wrap (K : Int) = (K : Int) := by rw [IntKind.wrap_u64]; omega
  have w3' : IntKind.i64.wrap (K : Int) = (K : Int) := by rw [IntKind.wrap_i64]; omega
  have n0 : (((rs.length : Int) + 1) == 0) = false := by simp; omega
  have HKQ := Lib.hid hK
  clear hK hN
  have z0 := HC1.out.c0; have z1 := HC1.out.c1; have z2 := HC1.out.c2; have z3 := HC1.out.c3; have z4 := HC1.out.c4; unfold IntAt at z0 z1
  go_wp2_with fail
  refine (high2_any c _ rs _ _ ⟨_, _, _, rfl, HC1.out.is⟩ HR1.out).mono ?_
  rintro e w2 ⟨v2, rfl, hres, hb2⟩
  have HB2 := Lib.hid (bthen HB1.out hb2)
  have HC2 := Lib.hid (HC1.out.ext (Ext.below hb2))
  have HR2 := Lib.hid (HR1.out.ext (Ext.below hb2))
  clear hb2 z0 z1 z2 z3 z4 HB1 HC1 HR1
  have hD : Below w2.heap.size w2 w2.drew := below_drew (Below.refl _ _)
  have HRK := Lib.hid (fun (W : World) (hW : Below w2.heap.size w2 W) => SliceAt.take (HR2.out.ext (Ext.below hW)) K hKl)
  have hlk : (rs.take K).length = K := by simp; omega
  have z0 := HC2.out.c0; have z1 := HC2.out.c1; have z2 := HC2.out.c2; have z3 := HC2.out.c3; have z4 := HC2.out.c4; unfold IntAt at z0 z1
  have hS0 : (fun w' : World => w'.cell? ⟨ga, 0, none⟩ = some (.int .i64 c.frame) ∧ w'.cell? ⟨ga, 1, none⟩ = some (.int .i64 c.quiet) ∧ w'.cell? ⟨ga, 2, none⟩ = some pv ∧ w'.cell? ⟨ga, 3, none⟩ = some wv ∧ w'.cell? ⟨ga, 4, none⟩ = some ov ∧ Below w2.heap.size w2 w') w2.drew := ⟨z0, z1, z2, z3, z4, hD⟩
  have kS : ∀ W W' : World, (fun w' : World => w'.cell? ⟨ga, 0, none⟩ = some (.int .i64 c.frame) ∧ w'.cell? ⟨ga, 1, none⟩ = some (.int .i64 c.quiet) ∧ w'.cell? ⟨ga, 2, none⟩ = some pv ∧ w'.cell? ⟨ga, 3, none⟩ = some wv ∧ w'.cell? ⟨ga, 4, none⟩ = some ov ∧ Below w2.heap.size w2 w') W → Below W.heap.size W W' → (fun w' : World => w'.cell? ⟨ga, 0, none⟩ = some (.int .i64 c.frame) ∧ w'.cell? ⟨ga, 1, none⟩ = some (.int .i64 c.quiet) ∧ w'.cell? ⟨ga, 2, none⟩ = some pv ∧ w'.cell? ⟨ga, 3, none⟩ = some wv ∧ w'.cell? ⟨ga, 4, none⟩ = some ov ∧ Below w2.heap.size w2 w') W' := by
    rintro W W' ⟨b0, b1, b2, b3, b4, hB⟩ hb
    exact ⟨Ext.below hb _ _ b0, Ext.below hb _ _ b1, Ext.below hb _ _ b2, Ext.below hb _ _ b3, Ext.below hb _ _ b4, bthen hB hb⟩
  have hKc : K ≤ rc := by omega
  cases hsp : highSpec c rs with
  | none =>
    rw [hsp] at hres
    obtain rfl := hres
    have HSP := Lib.hid hsp
    clear hsp hlk
    go_wp2_with fail
    go_region_held3 (fun w' : World => w'.cell? ⟨ga, 0, none⟩ = some (.int .i64 c.frame) ∧ w'.cell? ⟨ga, 1, none⟩ = some (.int .i64 c.quiet) ∧ w'.cell? ⟨ga, 2, none⟩ = some pv ∧ w'.cell? ⟨ga, 3, none⟩ = some wv ∧ w'.cell? ⟨ga, 4, none⟩ = some ov ∧ Below w2.heap.size w2 w') (first | exact hS0 | exact kS _ _ hS0 hb3)
      ((go_at_call 12; refine (high2_any c _ (rs.take K) _ _ ⟨_, _, _, rfl, HC2.out.is.ext (Ext.below hD)⟩ (HRK.out _ hD)).mono ?_; rintro e w3 ⟨v3, rfl, hres3, hb3⟩; obtain ⟨gv3, n3, rfl⟩ := hres3.shape))
    have HB3 := Lib.hid (bthen HB2.out (bthen hD hb3))
    clear hb3 hS0 kS z0 z1 z2 z3 z4 hD hres3
    go_wp2_with (first | (go_at_call 8; refine (num_any _ _).mono ?_; rintro e w' ⟨rfl, hw⟩; subst w') | fail)
    go_ret
    exact ⟨rfl, HB3.out⟩
  | some xs =>
    rw [hsp] at hres
    obtain ⟨gv, rfl, hgo⟩ := hres
    obtain ⟨hxs, hgl⟩ := highSpec_some hsp
    subst hxs
    have HSK := Lib.hid (highSpec_take K hsp)
    have HGL := Lib.hid hgl
    have hn2 : (rs.map (glanceOf c)).length = rs.length := by simp
    obtain ⟨L0, l0⟩ := id hgo
    obtain ⟨va, vc, rfl⟩ := own_shape l0.1
    have HGO := Lib.hid hgo
    clear hsp hgo hgl l0
    rw [hn2] at ⊢
    have HN2 := Lib.hid hn2
    clear hn2
    go_wp2_with fail
    go_region_held3 (fun w' : World => w'.cell? ⟨ga, 0, none⟩ = some (.int .i64 c.frame) ∧ w'.cell? ⟨ga, 1, none⟩ = some (.int .i64 c.quiet) ∧ w'.cell? ⟨ga, 2, none⟩ = some pv ∧ w'.cell? ⟨ga, 3, none⟩ = some wv ∧ w'.cell? ⟨ga, 4, none⟩ = some ov ∧ Below w2.heap.size w2 w') (first | exact hS0 | exact kS _ _ hS0 hb3)
      ((go_at_call 12; refine (high2_any c _ (rs.take K) _ _ ⟨_, _, _, rfl, HC2.out.is.ext (Ext.below hD)⟩ (HRK.out _ hD)).mono ?_; rw [HSK.out]; rintro e w3 ⟨v3, rfl, ⟨gv3, rfl, hgo3⟩, hb3⟩; obtain ⟨L3, l3⟩ := id hgo3; obtain ⟨ua, uc, rfl⟩ := own_shape l3.1))
    have HB3 := Lib.hid (bthen HB2.out (bthen hD hb3))
    have HC3 := Lib.hid (HC2.out.ext (Ext.below (bthen hD hb3)))
    have HR3 := Lib.hid (HR2.out.ext (Ext.below (bthen hD hb3)))
    have HG3 := Lib.hid (HGO.out.below (bthen hD hb3))
    have HU3 := Lib.hid hgo3
    have hn3 : (((rs.take K).map (glanceOf c)).length) = K := by simp; omega
    clear hb3 hS0 kS z0 z1 z2 z3 z4 hD hgo3 l3 hlk HGO HB2 HC2 HR2
    have HN3 := Lib.hid hn3
    clear hn3
    go_wp2_with (first | (go_at_call 8; refine (num_any _ _).mono ?_; rintro e w' ⟨rfl, hw⟩; subst w') | fail)
    go_loopw [12] (fun i wr => ∃ k : Nat, k ≤ rs.length ∧ i = .int .i64 k ∧ Below w3.heap.size w3 wr) (fun i _ => rs.length - (intOf i).toNat)
    case atStart => exact ⟨0, by omega, rfl, Below.refl _ _⟩
    case round =>
      obtain ⟨k, hk, rfl, hB⟩ := hrel
      have HBr := Lib.hid hB
      have HCr := Lib.hid (HC3.out.ext (Ext.below hB))
      have HRr := Lib.hid (HR3.out.ext (Ext.below hB))
      have HGr := Lib.hid (HG3.out.below hB)
      have HUr := Lib.hid (HU3.out.below hB)
      clear hB
      by_cases hlt : k < rs.length
      rotate_left
      · go_wp2_with fail
        go_ret
        exact ⟨rfl, bthen HB3.out HBr.out⟩
      obtain ⟨aa, cc, ee, -, -, -, h5⟩ := HRr.out
      injection ee with ee _ ee3
      subst ee
      subst ee3
      obtain ⟨b, off, rfl, hc5⟩ := h5 (by intro e; rw [e] at hlt; simp at hlt)
      have hrow := hc5 k hlt
      obtain ⟨-, -, -, -, ev, x4, hev⟩ := id hrow
      obtain ⟨ea, ec, rfl, -⟩ := id hev
      have HRW := Lib.hid (And.intro hrow (And.intro x4 hev))
      clear h5 hc5 hrow x4 hev
      go_wp2_with fail
      refine region_inv rfl (by kernel_rfl) (VrInv wr (.agg #[.int .i64 c.frame, .int .i64 c.quiet, pv, wv, ov]) (.slice (some ⟨b, off, none⟩) rs.length rc) k b (off + k * 5) (.agg #[.int .i64 rs[k].tick, .int .i64 rs[k].owner, .bool rs[k].dealt, .int .i64 rs[k].mode, .slice ea rs[k].events.length ec]) (glanceOf c rs[k])) (fun vs => ⟨below_drew (Below.refl _ _), by simp, by simp, by simp, by simp, by simp, by simp, by simp, by simp, by simp, by simp, by simp⟩) ?_ ?_
      · simp only [List.map, putAll, Act.put, InvE, List.setIfInBounds_toArray, List.set_cons_succ, List.set_cons_zero, Nat.reduceAdd]
        refine ⟨?_, ?_, ?_, ?_, ?_, ?_, ?_, ?_, ?_, ?_, ?_, ?_, trivial⟩
        all_goals
          intro L vs W hI hi hn hcl K' hK
          rw [if_pos (by simp [Region.wanted])]
        · have y0 := Ext.below hI.below _ _ HCr.out.c0
          have y1 := Ext.below hI.below _ _ HCr.out.c1
          have y2 := Ext.below hI.below _ _ HCr.out.c2
          have y3 := Ext.below hI.below _ _ HCr.out.c3
          have y4 := Ext.below hI.below _ _ HCr.out.c4
          unfold IntAt at y0 y1
          have HK := Lib.hid (fun v h => hK v W ⟨hI.below, fun _ => h, hI.i1, hI.i2, hI.i3, hI.i4, hI.i5, hI.i6, hI.i7, hI.i8, hI.i9, hI.i11⟩)
          clear hK hI hn hcl
          go_simp
          exact HK.out _ rfl
        · have HK := Lib.hid (fun v h => hK v W ⟨hI.below, hI.i0, fun _ => h, hI.i2, hI.i3, hI.i4, hI.i5, hI.i6, hI.i7, hI.i8, hI.i9, hI.i11⟩)
          clear hK hI hn hcl
          go_simp
          exact HK.out _ rfl
        · have HK := Lib.hid (fun v h => hK v W ⟨hI.below, hI.i0, hI.i1, fun _ => h, hI.i3, hI.i4, hI.i5, hI.i6, hI.i7, hI.i8, hI.i9, hI.i11⟩)
          clear hK hI hn hcl
          go_simp
          exact HK.out _ rfl
        · have r1 := hI.i1 (hn 1 rfl)
          have r2 := hI.i2 (hn 2 rfl)
          simp only [r1, r2] at hK ⊢
          have HK := Lib.hid (fun v h => hK v W ⟨hI.below, hI.i0, hI.i1, hI.i2, fun _ => h, hI.i4, hI.i5, hI.i6, hI.i7, hI.i8, hI.i9, hI.i11⟩)
          clear hK hI hn hcl
          go_simp
          exact HK.out _ rfl
        · have r3 := hI.i3 (hn 3 rfl)
          obtain ⟨x0, x1, x2, x3, -⟩ := RowAt.ext (Ext.below hI.below) HRW.out.1
          have x4 := Ext.below hI.below _ _ HRW.out.2.1
          unfold IntAt at x0 x1 x3
          unfold BoolAt at x2
          simp only [r3] at hK ⊢
          have HK := Lib.hid (fun v h => hK v W ⟨hI.below, hI.i0, hI.i1, hI.i2, hI.i3, fun _ => h, hI.i5, hI.i6, hI.i7, hI.i8, hI.i9, hI.i11⟩)
          clear hK hI hn hcl
          go_simp
          exact HK.out _ rfl
        · have r0 := hI.i0 (hn 0 rfl)
          have r4 := hI.i4 (hn 4 rfl)
          simp only [r0, r4] at hK ⊢
          have HK := Lib.hid hK
          have HI := Lib.hid hI
          clear hK hI hn hcl
          go_simp
          go_at_call 7
          refine (Glance_any c _ rs[k] _ W ⟨_, _, _, rfl, HCr.out.is.ext (Ext.below HI.out.below)⟩ ⟨_, rfl, HRW.out.2.2.ext (Ext.below HI.out.below)⟩).mono ?_
          rw [HGL.out k hlt]
          rintro e w' ⟨v, rfl, ⟨gv, rfl, hgv⟩, hb⟩
          have kk := HI.out.keep hb
          have hgv' : GlanceO w' wr.heap.size gv (glanceOf c rs[k]) := by obtain ⟨ev, h1, h2⟩ := hgv; exact ⟨ev, h1, own_lower h2 HI.out.below.size⟩
          exact HK.out _ w' ⟨kk.below, kk.i0, kk.i1, kk.i2, kk.i3, kk.i4, fun _ => ⟨gv, rfl, hgv'⟩, kk.i6, kk.i7, kk.i8, kk.i9, kk.i11⟩
        · obtain ⟨gv, r5, hgv⟩ := hI.i5 (hn 5 rfl)
          simp only [r5] at hK ⊢
          have HK := Lib.hid (fun v h => hK v W ⟨hI.below, hI.i0, hI.i1, hI.i2, hI.i3, hI.i4, hI.i5, fun _ => ⟨gv, h, hgv⟩, hI.i7, hI.i8, hI.i9, hI.i11⟩)
          clear hK hI hn hcl
          go_simp
          exact HK.out _ rfl
        · obtain ⟨gv, r6, hgv⟩ := hI.i6 (hn 6 rfl)
          simp only [r6] at hK ⊢
          have HK := Lib.hid (fun v (h : v = gv) => hK v W ⟨hI.below, hI.i0, hI.i1, hI.i2, hI.i3, hI.i4, hI.i5, hI.i6, fun _ => (by subst h; exact hgv), hI.i8, hI.i9, hI.i11⟩)
          clear hK hI hn hcl
          go_simp
          exact HK.out _ rfl
        · obtain ⟨gv, r6, hgv⟩ := hI.i6 (hn 6 rfl)
          simp only [r6] at hK ⊢
          have HK := Lib.hid (fun v h => hK v W ⟨hI.below, hI.i0, hI.i1, hI.i2, hI.i3, hI.i4, hI.i5, hI.i6, hI.i7, fun _ => h, hI.i9, hI.i11⟩)
          clear hK hI hn hcl
          go_simp
          exact HK.out _ rfl
        · have HK := Lib.hid hK
          have HI := Lib.hid hI
          have HC9 := Lib.hid (fun (q : L 10 = true) => hcl 10 _ rfl q 9 rfl)
          have HL := Lib.hid hi
          clear hK hI hn hcl hi
          go_simp
          have kk := HI.out.keep (balloc W (.cells #[.int .i64 0, .int .i64 0, .int .i64 0, .slice none 0 0] 32))
          exact HK.out _ _ ⟨kk.below, kk.i0, kk.i1, kk.i2, kk.i3, kk.i4, kk.i5, kk.i6, kk.i7, kk.i8, fun _ => ⟨W.heap.size, rfl, HI.out.below.size, fun _ => blk_new _ _, fun q => absurd (HC9.out q) (by rw [HL.out]; decide)⟩, kk.i11⟩
        · obtain ⟨g, h9, hg, hz, -⟩ := hI.i9 (hn 9 rfl)
          have hz := hz hi
          obtain ⟨ev, h7, hev⟩ := hI.i7 (hn 7 rfl)
          obtain ⟨e1, e2, rfl⟩ := own_shape hev
          obtain ⟨W2, hw_W2⟩ : ∃ W2, W2 = put4 W g (.int .i64 (glanceOf c rs[k]).tick) (.int .i64 (glanceOf c rs[k]).owner) (.int .i64 (glanceOf c rs[k]).mode) (.slice e1 (glanceOf c rs[k]).events.length e2) := ⟨_, rfl⟩
          have hk_W2 := put4_at hz (.int .i64 (glanceOf c rs[k]).tick) (.int .i64 (glanceOf c rs[k]).owner) (.int .i64 (glanceOf c rs[k]).mode) (.slice e1 (glanceOf c rs[k]).events.length e2)
          have hg_W2 := put4_grown W g (.int .i64 (glanceOf c rs[k]).tick) (.int .i64 (glanceOf c rs[k]).owner) (.int .i64 (glanceOf c rs[k]).mode) (.slice e1 (glanceOf c rs[k]).events.length e2)
          rw [← hw_W2] at hk_W2 hg_W2
          unfold put4 at hw_W2
          have o_W2_0 := BlockIs.of hz 0 _ rfl
          have o_W2_1 := BlockIs.of hz 1 _ rfl
          have o_W2_2 := BlockIs.of hz 2 _ rfl
          have o_W2_3 := BlockIs.of hz 3 _ rfl
          have f_W2 := thaw hz
          have e_W2_0 := BlockIs.of hk_W2 0 _ rfl
          have e_W2_1 := BlockIs.of hk_W2 1 _ rfl
          have e_W2_2 := BlockIs.of hk_W2 2 _ rfl
          have e_W2_3 := BlockIs.of hk_W2 3 _ rfl
          have hr : ∀ q, some g = some q → Typed W q 32 := fun q hq => by injection hq with hq; rw [← hq]; exact ⟨_, hz⟩
          have hb2 := bput hI.below hg_W2 hg (Nat.le_refl _)
          have hk2 := own_apart hev hg_W2 hr (by decide)
          have HN : Hid (VrInv wr (.agg #[.int .i64 c.frame, .int .i64 c.quiet, pv, wv, ov]) (.slice (some ⟨b, off, none⟩) rs.length rc) k b (off + k * 5) (.agg #[.int .i64 rs[k].tick, .int .i64 rs[k].owner, .bool rs[k].dealt, .int .i64 rs[k].mode, .slice ea rs[k].events.length ec]) (glanceOf c rs[k]) (updB L 10) (upd vs 10 undef) W2) := Lib.hid ⟨hb2, hI.i0, hI.i1, hI.i2, hI.i3, hI.i4, fun q => (by obtain ⟨gv, a1, a2⟩ := hI.i5 q; exact ⟨gv, a1, a2.apart hg_W2 hr⟩), fun q => (by obtain ⟨gv, a1, a2⟩ := hI.i6 q; exact ⟨gv, a1, a2.apart hg_W2 hr⟩), fun q => (hI.i7 q).apart hg_W2 hr, hI.i8, fun _ => ⟨g, h9, hg, fun q => by simp [updB] at q, fun _ => ⟨_, hk_W2, hk2⟩⟩, hI.i11⟩
          simp only [h9, h7] at hK ⊢
          have HK := Lib.hid hK
          clear hK hI hn hcl hi hz hev hr hk_W2 hg_W2 hb2 hk2 hg h9 h7 e_W2_0 e_W2_1 e_W2_2 e_W2_3
          go_simp
          rw [← hw_W2]
          exact HK.out _ _ HN.out
        · have r8 := hI.i8 (hn 8 rfl)
          simp only [r8] at hK ⊢
          have HK := Lib.hid (fun v h => hK v W ⟨hI.below, hI.i0, hI.i1, hI.i2, hI.i3, hI.i4, hI.i5, hI.i6, hI.i7, hI.i8, hI.i9, fun _ => h⟩)
          clear hK hI hn hcl
          go_simp
          exact HK.out _ rfl
      · intro vs W hI
        simp only [List.map, putAll, Act.put, List.setIfInBounds_toArray, List.set_cons_succ, List.set_cons_zero, Nat.reduceAdd]
        obtain ⟨g, h9, hg, -, hbx⟩ := hI.i9 (by simp)
        obtain ⟨ev', hk9, hev9⟩ := hbx (by simp)
        obtain ⟨q1, q2, rfl⟩ := own_shape hev9
        have h11 := hI.i11 (by simp)
        have HBW := Lib.hid hI.below
        simp only [h9, h11]
        clear hI h9 h11 hbx
        have hge := hev9.events (by have h1 := List.length_filter_le (keepB c) rs[k].events; obtain ⟨-, -, -, h2, -⟩ := HRW.out.2.2; show (rs[k].events.filter (keepB c)).length * 32 ≤ _; omega)
        have hles : (glanceOf c rs[k]).events.length * 32 ≤ 140737488351232 := by have h1 := List.length_filter_le (keepB c) rs[k].events; obtain ⟨-, -, -, h2, -⟩ := HRW.out.2.2; show (rs[k].events.filter (keepB c)).length * 32 ≤ _; omega
        obtain ⟨G, eg, rfl, a0, a1, a2, a3, a4⟩ := HGr.out.at k (by simp; exact hlt)
        simp only [List.getElem_map] at a0 a1 a2 a3 a4
        obtain ⟨a5, a6, rfl⟩ := own_shape a4
        have m0 := BlockIs.of hk9 0 _ rfl
        have m1 := BlockIs.of hk9 1 _ rfl
        have m2 := BlockIs.of hk9 2 _ rfl
        have m3 := BlockIs.of hk9 3 _ rfl
        have HM := Lib.hid (And.intro hge (And.intro ((a4.events hles).ext (Ext.below HBW.out)) trivial))
        replace a0 := Ext.below HBW.out _ _ a0
        replace a1 := Ext.below HBW.out _ _ a1
        replace a2 := Ext.below HBW.out _ _ a2
        replace a3 := Ext.below HBW.out _ _ a3
        have HLE := Lib.hid hles
        have hD : Below W.heap.size W W.drew := below_drew (Below.refl _ _)
        clear hge a4 hles hk9 hev9 hg
        by_cases hkK : k < K
        · obtain ⟨U, eu, rfl, u0, u1, u2, u3, u4⟩ := HUr.out.at k (by simp; omega)
          simp only [List.getElem_map, List.getElem_take] at u0 u1 u2 u3 u4
          obtain ⟨u5, u6, rfl⟩ := own_shape u4
          have HUE := Lib.hid ((u4.events HLE.out).ext (Ext.below HBW.out))
          replace u0 := Ext.below HBW.out _ _ u0
          replace u1 := Ext.below HBW.out _ _ u1
          replace u2 := Ext.below HBW.out _ _ u2
          replace u3 := Ext.below HBW.out _ _ u3
          have hkd : decide ((k : Int) < (K : Int)) = true := by simp; omega
          have hkd' : decide (k < K) = true := by simp; omega
          clear u4
          go_wp2_with fail
          have hS0 : (fun w' : World => w'.cell? ⟨g, 0, none⟩ = some (.int .i64 (glanceOf c rs[k]).tick) ∧ w'.cell? ⟨g, 1, none⟩ = some (.int .i64 (glanceOf c rs[k]).owner) ∧ w'.cell? ⟨g, 2, none⟩ = some (.int .i64 (glanceOf c rs[k]).mode) ∧ w'.cell? ⟨g, 3, none⟩ = some (.slice q1 (glanceOf c rs[k]).events.length q2) ∧ w'.cell? ⟨G, k * 4, none⟩ = some (.int .i64 (glanceOf c rs[k]).tick) ∧ w'.cell? ⟨G, k * 4 + 1, none⟩ = some (.int .i64 (glanceOf c rs[k]).owner) ∧ w'.cell? ⟨G, k * 4 + 2, none⟩ = some (.int .i64 (glanceOf c rs[k]).mode) ∧ w'.cell? ⟨G, k * 4 + 3, none⟩ = some (.slice a5 (glanceOf c rs[k]).events.length a6) ∧ w'.cell? ⟨U, k * 4, none⟩ = some (.int .i64 (glanceOf c rs[k]).tick) ∧ w'.cell? ⟨U, k * 4 + 1, none⟩ = some (.int .i64 (glanceOf c rs[k]).owner) ∧ w'.cell? ⟨U, k * 4 + 2, none⟩ = some (.int .i64 (glanceOf c rs[k]).mode) ∧ w'.cell? ⟨U, k * 4 + 3, none⟩ = some (.slice u5 (glanceOf c rs[k]).events.length u6) ∧ Below W.heap.size W w') W.drew := ⟨m0, m1, m2, m3, a0, a1, a2, a3, u0, u1, u2, u3, hD⟩
          have kS : ∀ W' W'' : World, (fun w' : World => w'.cell? ⟨g, 0, none⟩ = some (.int .i64 (glanceOf c rs[k]).tick) ∧ w'.cell? ⟨g, 1, none⟩ = some (.int .i64 (glanceOf c rs[k]).owner) ∧ w'.cell? ⟨g, 2, none⟩ = some (.int .i64 (glanceOf c rs[k]).mode) ∧ w'.cell? ⟨g, 3, none⟩ = some (.slice q1 (glanceOf c rs[k]).events.length q2) ∧ w'.cell? ⟨G, k * 4, none⟩ = some (.int .i64 (glanceOf c rs[k]).tick) ∧ w'.cell? ⟨G, k * 4 + 1, none⟩ = some (.int .i64 (glanceOf c rs[k]).owner) ∧ w'.cell? ⟨G, k * 4 + 2, none⟩ = some (.int .i64 (glanceOf c rs[k]).mode) ∧ w'.cell? ⟨G, k * 4 + 3, none⟩ = some (.slice a5 (glanceOf c rs[k]).events.length a6) ∧ w'.cell? ⟨U, k * 4, none⟩ = some (.int .i64 (glanceOf c rs[k]).tick) ∧ w'.cell? ⟨U, k * 4 + 1, none⟩ = some (.int .i64 (glanceOf c rs[k]).owner) ∧ w'.cell? ⟨U, k * 4 + 2, none⟩ = some (.int .i64 (glanceOf c rs[k]).mode) ∧ w'.cell? ⟨U, k * 4 + 3, none⟩ = some (.slice u5 (glanceOf c rs[k]).events.length u6) ∧ Below W.heap.size W w') W' → Below W'.heap.size W' W'' → (fun w' : World => w'.cell? ⟨g, 0, none⟩ = some (.int .i64 (glanceOf c rs[k]).tick) ∧ w'.cell? ⟨g, 1, none⟩ = some (.int .i64 (glanceOf c rs[k]).owner) ∧ w'.cell? ⟨g, 2, none⟩ = some (.int .i64 (glanceOf c rs[k]).mode) ∧ w'.cell? ⟨g, 3, none⟩ = some (.slice q1 (glanceOf c rs[k]).events.length q2) ∧ w'.cell? ⟨G, k * 4, none⟩ = some (.int .i64 (glanceOf c rs[k]).tick) ∧ w'.cell? ⟨G, k * 4 + 1, none⟩ = some (.int .i64 (glanceOf c rs[k]).owner) ∧ w'.cell? ⟨G, k * 4 + 2, none⟩ = some (.int .i64 (glanceOf c rs[k]).mode) ∧ w'.cell? ⟨G, k * 4 + 3, none⟩ = some (.slice a5 (glanceOf c rs[k]).events.length a6) ∧ w'.cell? ⟨U, k * 4, none⟩ = some (.int .i64 (glanceOf c rs[k]).tick) ∧ w'.cell? ⟨U, k * 4 + 1, none⟩ = some (.int .i64 (glanceOf c rs[k]).owner) ∧ w'.cell? ⟨U, k * 4 + 2, none⟩ = some (.int .i64 (glanceOf c rs[k]).mode) ∧ w'.cell? ⟨U, k * 4 + 3, none⟩ = some (.slice u5 (glanceOf c rs[k]).events.length u6) ∧ Below W.heap.size W w') W'' := by
            rintro W' W'' ⟨b0, b1, b2, b3, b4, b5, b6, b7, b8, b9, b10, b11, hB⟩ hb
            exact ⟨Ext.below hb _ _ b0, Ext.below hb _ _ b1, Ext.below hb _ _ b2, Ext.below hb _ _ b3, Ext.below hb _ _ b4, Ext.below hb _ _ b5, Ext.below hb _ _ b6, Ext.below hb _ _ b7, Ext.below hb _ _ b8, Ext.below hb _ _ b9, Ext.below hb _ _ b10, Ext.below hb _ _ b11, bthen hB hb⟩
          go_region_held3 (fun w' : World => w'.cell? ⟨g, 0, none⟩ = some (.int .i64 (glanceOf c rs[k]).tick) ∧ w'.cell? ⟨g, 1, none⟩ = some (.int .i64 (glanceOf c rs[k]).owner) ∧ w'.cell? ⟨g, 2, none⟩ = some (.int .i64 (glanceOf c rs[k]).mode) ∧ w'.cell? ⟨g, 3, none⟩ = some (.slice q1 (glanceOf c rs[k]).events.length q2) ∧ w'.cell? ⟨G, k * 4, none⟩ = some (.int .i64 (glanceOf c rs[k]).tick) ∧ w'.cell? ⟨G, k * 4 + 1, none⟩ = some (.int .i64 (glanceOf c rs[k]).owner) ∧ w'.cell? ⟨G, k * 4 + 2, none⟩ = some (.int .i64 (glanceOf c rs[k]).mode) ∧ w'.cell? ⟨G, k * 4 + 3, none⟩ = some (.slice a5 (glanceOf c rs[k]).events.length a6) ∧ w'.cell? ⟨U, k * 4, none⟩ = some (.int .i64 (glanceOf c rs[k]).tick) ∧ w'.cell? ⟨U, k * 4 + 1, none⟩ = some (.int .i64 (glanceOf c rs[k]).owner) ∧ w'.cell? ⟨U, k * 4 + 2, none⟩ = some (.int .i64 (glanceOf c rs[k]).mode) ∧ w'.cell? ⟨U, k * 4 + 3, none⟩ = some (.slice u5 (glanceOf c rs[k]).events.length u6) ∧ Below W.heap.size W w') (first | exact hS0 | exact kS _ _ hS0 hb8 | exact kS _ _ (kS _ _ hS0 hb8) hb9) (first | (go_at_call 8; refine (num_any _ _).mono ?_; rintro e w' ⟨rfl, hw⟩; subst w') | (go_at_call 13; refine (sameGlance_any (glanceOf c rs[k]) _ _ _ ⟨_, rfl, HM.out.1.ext (Ext.below (bthen hD hb8))⟩ ⟨_, rfl, HUE.out.ext (Ext.below (bthen hD hb8))⟩).mono ?_; rintro e w9 ⟨rfl, hb9⟩) | (go_at_call 13; refine (sameGlance_any (glanceOf c rs[k]) _ _ _ ⟨_, rfl, HM.out.1.ext (Ext.below hD)⟩ ⟨_, rfl, HM.out.2.1.ext (Ext.below hD)⟩).mono ?_; rintro e w8 ⟨rfl, hb8⟩))
          have HB9 := Lib.hid (bthen HBr.out (bthen HBW.out (bthen (bthen hD hb8) hb9)))
          clear hb8 hb9 hS0 kS
          go_wp2_with fail
          go_roundw
          case rel => exact ⟨k + 1, by omega, by go_num, HB9.out⟩
          case measure => simp [intOf]; omega
        · have hkd : decide ((k : Int) < (K : Int)) = false := by simp; omega
          have hkd' : decide (k < K) = false := by simp; omega
          go_wp2_with fail
          refine region_v rfl (by kernel_rfl) (fun (i : Nat) (v : Value) (W : World) => match i with | 0 => v = .int .i64 0 | 1 => v = .int .i64 0 | 2 => v = .bool false | 3 => v = .bool false | 4 => v = .agg #[.int .i64 (glanceOf c rs[k]).tick, .int .i64 (glanceOf c rs[k]).owner, .int .i64 (glanceOf c rs[k]).mode, .slice q1 (glanceOf c rs[k]).events.length q2] | 5 => v = .slice (some ⟨G, 0, none⟩) rs.length vc | 6 => v = .int .i64 k | 7 => v = .pointer (some ⟨G, k * 4, none⟩) | 8 => v = .agg #[.int .i64 (glanceOf c rs[k]).tick, .int .i64 (glanceOf c rs[k]).owner, .int .i64 (glanceOf c rs[k]).mode, .slice a5 (glanceOf c rs[k]).events.length a6] | 9 => v = .bool true | 10 => v = .bool false | 11 => v = .bool false | 12 => v = .bool false | 13 => v = .int .i64 k | 14 => v = .int .i64 K | 15 => v = .bool false | 16 => v = .bool false | 17 => v = undef | 18 => v = undef | 19 => v = undef | 20 => v = undef | 21 => v = undef | 22 => v = undef | 23 => v = undef | 24 => v = .bool false | 25 => v = .bool false | _ => True) ?_ ?_ ?_
          · intro i v W W' hb h
            (try dsimp only at h ⊢)
            split at h <;> first | exact h | trivial
          · simp (config := { maxSteps := 4000000 }) only [List.map, putAll, Act.put, VE, List.setIfInBounds_toArray, List.set_cons_succ, List.set_cons_zero, Nat.reduceAdd]
            refine ⟨?_, ?_, ?_, ?_, ?_, ?_, ?_, ?_, ?_, ?_, ?_, ?_, ?_, ?_, ?_, ?_, ?_, ?_, ?_, ?_, ?_, ?_, ?_, ?_, ?_, ?_, trivial⟩
            all_goals intro vs W hB hr KK hK
            · rw [if_pos (by simp [Region.wanted])]
              have HK := Lib.hid hK
              clear hK hr
              go_simp
              exact HK.out _ W (Below.refl _ _) rfl
            · have r0 : vs 0 = .int .i64 0 := hr 0 rfl
              rw [if_pos (by simp [Region.wanted])]
              simp only [r0] at hK ⊢
              have HK := Lib.hid hK
              have HB := Lib.hid hB
              clear hK hr hB
              go_simp
              go_at_call 8
              refine (num_any _ _).mono ?_
              rintro e w' ⟨rfl, hw⟩
              subst w'
              exact HK.out _ W (Below.refl _ _) rfl
            · have r1 : vs 1 = .int .i64 0 := hr 1 rfl
              rw [if_pos (by simp [Region.wanted])]
              simp only [r1] at hK ⊢
              have HK := Lib.hid hK
              clear hK hr
              go_simp
              exact HK.out _ W (Below.refl _ _) rfl
            · have r2 : vs 2 = .bool false := hr 2 rfl
              rw [if_pos (by simp [Region.wanted])]
              simp only [r2] at hK ⊢
              have HK := Lib.hid hK
              clear hK hr
              go_simp
              exact HK.out _ W (Below.refl _ _) rfl
            · have r3 : vs 3 = .bool false := hr 3 rfl
              rw [if_pos (by simp [Region.wanted, yielded, r3])]
              have zm0 := Ext.below hB _ _ m0
              have zm1 := Ext.below hB _ _ m1
              have zm2 := Ext.below hB _ _ m2
              have zm3 := Ext.below hB _ _ m3
              simp only [r3] at hK ⊢
              have HK := Lib.hid hK
              clear hK hr
              go_simp
              exact HK.out _ W (Below.refl _ _) rfl
            · have r3 : vs 3 = .bool false := hr 3 rfl
              rw [if_pos (by simp [Region.wanted, yielded, r3])]
              simp only [r3] at hK ⊢
              have HK := Lib.hid hK
              clear hK hr
              go_simp
              exact HK.out _ W (Below.refl _ _) rfl
            · have r3 : vs 3 = .bool false := hr 3 rfl
              rw [if_pos (by simp [Region.wanted, yielded, r3])]
              simp only [r3] at hK ⊢
              have HK := Lib.hid hK
              clear hK hr
              go_simp
              exact HK.out _ W (Below.refl _ _) rfl
            · have r3 : vs 3 = .bool false := hr 3 rfl
              have r5 : vs 5 = .slice (some ⟨G, 0, none⟩) rs.length vc := hr 5 rfl
              have r6 : vs 6 = .int .i64 k := hr 6 rfl
              rw [if_pos (by simp [Region.wanted, yielded, r3])]
              simp only [r3, r5, r6] at hK ⊢
              have HK := Lib.hid hK
              clear hK hr
              go_simp
              exact HK.out _ W (Below.refl _ _) rfl
            · have r3 : vs 3 = .bool false := hr 3 rfl
              have r7 : vs 7 = .pointer (some ⟨G, k * 4, none⟩) := hr 7 rfl
              rw [if_pos (by simp [Region.wanted, yielded, r3])]
              have za0 := Ext.below hB _ _ a0
              have za1 := Ext.below hB _ _ a1
              have za2 := Ext.below hB _ _ a2
              have za3 := Ext.below hB _ _ a3
              simp only [r3, r7] at hK ⊢
              have HK := Lib.hid hK
              clear hK hr
              go_simp
              exact HK.out _ W (Below.refl _ _) rfl
            · have r3 : vs 3 = .bool false := hr 3 rfl
              have r4 : vs 4 = .agg #[.int .i64 (glanceOf c rs[k]).tick, .int .i64 (glanceOf c rs[k]).owner, .int .i64 (glanceOf c rs[k]).mode, .slice q1 (glanceOf c rs[k]).events.length q2] := hr 4 rfl
              have r8 : vs 8 = .agg #[.int .i64 (glanceOf c rs[k]).tick, .int .i64 (glanceOf c rs[k]).owner, .int .i64 (glanceOf c rs[k]).mode, .slice a5 (glanceOf c rs[k]).events.length a6] := hr 8 rfl
              rw [if_pos (by simp [Region.wanted, yielded, r3])]
              simp only [r3, r4, r8] at hK ⊢
              have HK := Lib.hid hK
              have HB := Lib.hid hB
              clear hK hr hB
              go_simp
              go_at_call 13
              refine (sameGlance_any (glanceOf c rs[k]) _ _ _ ⟨_, rfl, HM.out.1.ext (Ext.below HB.out)⟩ ⟨_, rfl, HM.out.2.1.ext (Ext.below HB.out)⟩).mono ?_
              rintro e w8 ⟨rfl, hb8⟩
              exact HK.out _ w8 hb8 rfl
            · have r3 : vs 3 = .bool false := hr 3 rfl
              have r9 : vs 9 = .bool true := hr 9 rfl
              rw [if_pos (by simp [Region.wanted, yielded, r3])]
              simp only [r3, r9] at hK ⊢
              have HK := Lib.hid hK
              clear hK hr
              go_simp
              exact HK.out _ W (Below.refl _ _) rfl
            · have r3 : vs 3 = .bool false := hr 3 rfl
              have r10 : vs 10 = .bool false := hr 10 rfl
              rw [if_pos (by simp [Region.wanted])]
              simp only [r3, r10] at hK ⊢
              have HK := Lib.hid hK
              clear hK hr
              go_simp
              exact HK.out _ W (Below.refl _ _) rfl
            · have r11 : vs 11 = .bool false := hr 11 rfl
              rw [if_pos (by simp [Region.wanted])]
              simp only [r11] at hK ⊢
              have HK := Lib.hid hK
              clear hK hr
              go_simp
              exact HK.out _ W (Below.refl _ _) rfl
            · have r12 : vs 12 = .bool false := hr 12 rfl
              rw [if_pos (by simp [Region.wanted, yielded, r12])]
              simp only [r12] at hK ⊢
              have HK := Lib.hid hK
              clear hK hr
              go_simp
              exact HK.out _ W (Below.refl _ _) rfl
            · have r12 : vs 12 = .bool false := hr 12 rfl
              rw [if_pos (by simp [Region.wanted, yielded, r12])]
              simp only [r12] at hK ⊢
              have HK := Lib.hid hK
              clear hK hr
              go_simp
              exact HK.out _ W (Below.refl _ _) rfl
            · have r12 : vs 12 = .bool false := hr 12 rfl
              have r13 : vs 13 = .int .i64 k := hr 13 rfl
              have r14 : vs 14 = .int .i64 K := hr 14 rfl
              rw [if_pos (by simp [Region.wanted, yielded, r12])]
              simp only [r12, r13, r14] at hK ⊢
              have HK := Lib.hid hK
              clear hK hr
              go_simp
              exact HK.out _ W (Below.refl _ _) rfl
            · have r12 : vs 12 = .bool false := hr 12 rfl
              have r15 : vs 15 = .bool false := hr 15 rfl
              rw [if_pos (by simp [Region.wanted, yielded, r12])]
              simp only [r12, r15] at hK ⊢
              have HK := Lib.hid hK
              clear hK hr
              go_simp
              exact HK.out _ W (Below.refl _ _) rfl
            · have r16 : vs 16 = .bool false := hr 16 rfl
              rw [if_neg (by simp [Region.wanted, yielded, r16])]
              exact hK undef W (Below.refl _ _) rfl
            · have r16 : vs 16 = .bool false := hr 16 rfl
              rw [if_neg (by simp [Region.wanted, yielded, r16])]
              exact hK undef W (Below.refl _ _) rfl
            · have r16 : vs 16 = .bool false := hr 16 rfl
              rw [if_neg (by simp [Region.wanted, yielded, r16])]
              exact hK undef W (Below.refl _ _) rfl
            · have r16 : vs 16 = .bool false := hr 16 rfl
              rw [if_neg (by simp [Region.wanted, yielded, r16])]
              exact hK undef W (Below.refl _ _) rfl
            · have r16 : vs 16 = .bool false := hr 16 rfl
              rw [if_neg (by simp [Region.wanted, yielded, r16])]
              exact hK undef W (Below.refl _ _) rfl
            · have r16 : vs 16 = .bool false := hr 16 rfl
              rw [if_neg (by simp [Region.wanted, yielded, r16])]
              exact hK undef W (Below.refl _ _) rfl
            · have r16 : vs 16 = .bool false := hr 16 rfl
              rw [if_neg (by simp [Region.wanted, yielded, r16])]
              exact hK undef W (Below.refl _ _) rfl
            · have r12 : vs 12 = .bool false := hr 12 rfl
              have r16 : vs 16 = .bool false := hr 16 rfl
              rw [if_pos (by simp [Region.wanted, yielded, r12])]
              simp only [r12, r16] at hK ⊢
              have HK := Lib.hid hK
              clear hK hr
              go_simp
              exact HK.out _ W (Below.refl _ _) rfl
            · have r12 : vs 12 = .bool false := hr 12 rfl
              have r24 : vs 24 = .bool false := hr 24 rfl
              rw [if_pos (by simp [Region.wanted])]
              simp only [r12, r24] at hK ⊢
              have HK := Lib.hid hK
              clear hK hr
              go_simp
              exact HK.out _ W (Below.refl _ _) rfl
          · intro vs W hB hV
            simp only [List.map, putAll, Act.put, List.setIfInBounds_toArray, List.set_cons_succ, List.set_cons_zero, Nat.reduceAdd]
            have r0 : vs 0 = .int .i64 0 := hV 0 (by simp)
            have r1 : vs 1 = .int .i64 0 := hV 1 (by simp)
            have r2 : vs 2 = .bool false := hV 2 (by simp)
            have r3 : vs 3 = .bool false := hV 3 (by simp)
            have r4 : vs 4 = .agg #[.int .i64 (glanceOf c rs[k]).tick, .int .i64 (glanceOf c rs[k]).owner, .int .i64 (glanceOf c rs[k]).mode, .slice q1 (glanceOf c rs[k]).events.length q2] := hV 4 (by simp)
            have r5 : vs 5 = .slice (some ⟨G, 0, none⟩) rs.length vc := hV 5 (by simp)
            have r6 : vs 6 = .int .i64 k := hV 6 (by simp)
            have r7 : vs 7 = .pointer (some ⟨G, k * 4, none⟩) := hV 7 (by simp)
            have r8 : vs 8 = .agg #[.int .i64 (glanceOf c rs[k]).tick, .int .i64 (glanceOf c rs[k]).owner, .int .i64 (glanceOf c rs[k]).mode, .slice a5 (glanceOf c rs[k]).events.length a6] := hV 8 (by simp)
            have r9 : vs 9 = .bool true := hV 9 (by simp)
            have r10 : vs 10 = .bool false := hV 10 (by simp)
            have r11 : vs 11 = .bool false := hV 11 (by simp)
            have r12 : vs 12 = .bool false := hV 12 (by simp)
            have r13 : vs 13 = .int .i64 k := hV 13 (by simp)
            have r14 : vs 14 = .int .i64 K := hV 14 (by simp)
            have r15 : vs 15 = .bool false := hV 15 (by simp)
            have r16 : vs 16 = .bool false := hV 16 (by simp)
            have r17 : vs 17 = undef := hV 17 (by simp)
            have r18 : vs 18 = undef := hV 18 (by simp)
            have r19 : vs 19 = undef := hV 19 (by simp)
            have r20 : vs 20 = undef := hV 20 (by simp)
            have r21 : vs 21 = undef := hV 21 (by simp)
            have r22 : vs 22 = undef := hV 22 (by simp)
            have r23 : vs 23 = undef := hV 23 (by simp)
            have r24 : vs 24 = .bool false := hV 24 (by simp)
            have r25 : vs 25 = .bool false := hV 25 (by simp)
            simp only [r0, r1, r2, r3, r4, r5, r6, r7, r8, r9, r10, r11, r12, r13, r14, r15, r16, r17, r18, r19, r20, r21, r22, r23, r24, r25]
            clear r0 r1 r2 r3 r4 r5 r6 r7 r8 r9 r10 r11 r12 r13 r14 r15 r16 r17 r18 r19 r20 r21 r22 r23 r24 r25
            have HB9 := Lib.hid (bthen HBr.out (bthen HBW.out hB))
            clear hB hV
            go_wp2_with fail
            go_roundw
            case rel => exact ⟨k + 1, by omega, by go_num, HB9.out⟩
            case measure => simp [intOf]; omega
end Go.Proofs.Ytjhhncahlijohaa
