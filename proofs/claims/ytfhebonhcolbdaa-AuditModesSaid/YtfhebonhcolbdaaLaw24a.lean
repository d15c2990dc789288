/- What every law of chapter 24 begins with. -/
import Derived.Test.YtfhebonhcolbdaaAud4
import Derived.Test.YtfhebonhcolbdaaRowC
import Derived.Test.YtfhebonhcolbdaaPlain
set_option linter.unusedVariables false
set_option linter.unusedSimpArgs false
namespace Go.Proofs.Ytfhebonhcolbdaa
open Go.RowKit

set_option maxRecDepth 100000 in
set_option maxHeartbeats 400000 in
theorem num_any (x : Int) (w : World) : Calls Try.prog 11 #[.int .i64 x] w fun e w' => e = .returned (.int .i64 x) ∧ w' = w := by
  go_enter Try.func11, Try.ntmps11
  go_wp2_with fail
  go_ret
  exact ⟨rfl, rfl⟩
theorem sliceAll {α : Type} {P : World → Nat → Nat → α → Prop} {k B : Nat} {w : World} {b : Nat} {xs : List α} (hB : xs.length * B ≤ 140737488351232) (hl : xs.length ≤ maxLen) (h : ∀ i (hi : i < xs.length), P w b (i * k) xs[i]) : SliceAt P k B w (.slice (some ⟨b, 0, none⟩) xs.length xs.length) xs :=
  ⟨some ⟨b, 0, none⟩, xs.length, rfl, hB, Nat.le_refl _, hl, fun _ => ⟨b, 0, rfl, fun i hi => by rw [Nat.zero_add]; exact h i hi⟩⟩
theorem row_of {W : World} {b o : Nat} {cs : Array Value} (h : BlockIs W b cs) (x : Row) (h0 : cs[o]? = some (.int .i64 x.tick)) (h1 : cs[o + 1]? = some (.int .i64 x.owner)) (h2 : cs[o + 2]? = some (.bool x.dealt)) (h3 : cs[o + 3]? = some (.int .i64 x.mode)) (h4 : cs[o + 4]? = some (.slice none 0 0)) (hx : x.events = []) : RowAt W b o x :=
  ⟨h _ _ h0, h _ _ h1, h _ _ h2, h _ _ h3, _, h _ _ h4, by rw [hx]; exact slice0 _ _ _ _⟩
theorem rows1 {W : World} {b : Nat} {cs : Array Value} (h : BlockIs W b cs) (x : Row) (h0 : cs[0]? = some (.int .i64 x.tick)) (h1 : cs[1]? = some (.int .i64 x.owner)) (h2 : cs[2]? = some (.bool x.dealt)) (h3 : cs[3]? = some (.int .i64 x.mode)) (h4 : cs[4]? = some (.slice none 0 0)) (hx : x.events = []) : RowsV W (.slice (some ⟨b, 0, none⟩) 1 1) [x] :=
  slice1 (by decide) (row_of h x h0 h1 h2 h3 h4 hx)
theorem slice3 {α : Type} {P : World → Nat → Nat → α → Prop} {k B : Nat} {w : World} {b : Nat} {x y z : α} (hB : B ≤ 100) (h0 : P w b 0 x) (h1 : P w b k y) (h2 : P w b (2 * k) z) : SliceAt P k B w (.slice (some ⟨b, 0, none⟩) 3 3) [x, y, z] :=
  ⟨some ⟨b, 0, none⟩, 3, rfl, by simp; omega, by simp, by decide, fun _ => ⟨b, 0, rfl, fun i hi => by
    have hi : i < 3 := by simpa using hi
    match i, hi with
    | 0, _ => simpa using h0
    | 1, _ => simpa using h1
    | 2, _ => simpa using h2⟩⟩
theorem keep_blk {w w' : World} {g : Nat} {o : Obj} (h : w.heap[g]? = some o) (hb : Below w.heap.size w w') : w'.heap[g]? = some o := (hb.block g (lt_of_block h)).trans h
def awR1 : Row := ⟨4, 0, false, 0, []⟩
def awR2 : Row := ⟨5, -1, false, 0, []⟩
def awR2' : Row := ⟨5, 0, false, 0, []⟩
def awR3 : Row := ⟨6, 1, false, 0, []⟩
def awR4 : Row := ⟨0, 2, false, 0, []⟩
def awR5 : Row := ⟨6, 0, false, 0, []⟩
set_option maxRecDepth 100000 in
set_option maxHeartbeats 3000000 in
theorem awake24_any (w : World) : Calls Try.prog 15 #[] w fun e w' => e = .returned (.bool true) ∧ Below w.heap.size w w' := by
  go_enter Try.func15, Try.ntmps15
  go_wp2_with fail
  refine (plain24_any w).mono ?_
  rintro e w1 ⟨v, rfl, hc, hb1⟩
  obtain ⟨pv, wv, ov, rfl, hcfg⟩ := hc
  obtain ⟨pa, pk, wa, wk, oa, ok, rfl, rfl, rfl⟩ := hcfg.shape
  obtain ⟨wz, hwz⟩ : ∃ wz, wz = w1.alloc (.cells #[.int .i64 plainCfg.frame, .int .i64 plainCfg.quiet, .slice pa plainCfg.parts.length pk, .slice wa plainCfg.windows.length wk, .slice oa plainCfg.ports.length ok] 26) := ⟨_, rfl⟩
  have HBz := Lib.hid (bthen hb1 (balloc w1 (.cells #[.int .i64 plainCfg.frame, .int .i64 plainCfg.quiet, .slice pa plainCfg.parts.length pk, .slice wa plainCfg.windows.length wk, .slice oa plainCfg.ports.length ok] 26)))
  have HCz := Lib.hid (cfg_box w1 plainCfg _ _ _ 26 hcfg)
  rw [← hwz] at HBz HCz
  have HWZ := Lib.hid hwz
  clear hcfg hb1 hwz
  have L1 : auditSpec plainCfg [awR1, awR2, awR3] = 0 := by decide +kernel
  have L2 : sharesErr plainCfg [awR1, awR2, awR3] = 0 := by decide +kernel
  have L3 : sharesAns plainCfg [awR1, awR2, awR3] = [1, 1] := by decide +kernel
  have L4 : auditSpec plainCfg [awR1, awR2', awR3] = 2401 := by decide +kernel
  have L5 : auditSpec plainCfg [awR4] = 2400 := by decide +kernel
  have L6 : auditSpec plainCfg [awR5] = 2401 := by decide +kernel
  have L := Lib.hid (And.intro L1 (And.intro L2 (And.intro L3 (And.intro L4 (And.intro L5 L6)))))
  clear L1 L2 L3 L4 L5 L6
  generalize hpc : plainCfg = pc at *
  clear hpc
  go_wp2_with fail
  rw [← HWZ.out]
  have hzs : w1.heap.size + 1 = wz.heap.size := by rw [HWZ.out]; simp
  obtain ⟨g, hg⟩ : ∃ g, g = w1.heap.size := ⟨_, rfl⟩
  rw [← hg] at HCz
  rw [hzs, ← hg]
  clear HWZ
  have hgz : g < wz.heap.size := by omega
  obtain ⟨q, hq⟩ : ∃ q, q = wz.heap.size := ⟨_, rfl⟩
  obtain ⟨cs1, hcs1⟩ : ∃ cs1 : Array Value, cs1 = #[.int .i64 4, .int .i64 0, .bool false, .int .i64 0, .slice none 0 0, .int .i64 5, .int .i64 (-1), .bool false, .int .i64 0, .slice none 0 0, .int .i64 6, .int .i64 1, .bool false, .int .i64 0, .slice none 0 0] := ⟨_, rfl⟩
  obtain ⟨w2, hw2⟩ : ∃ w2, w2 = wz.alloc (.cells cs1 45) := ⟨_, rfl⟩
  have hbk : w2.heap[q]? = some (.cells cs1 45 (0, 0)) := by rw [hw2, hq]; exact blk_new _ _
  have hb2 : Below wz.heap.size wz w2 := by rw [hw2]; exact balloc _ _
  rw [← hcs1, ← hw2, ← hq]
  have HR1 : Hid (RowsV w2 (.slice (some ⟨q, 0, none⟩) 3 3) [awR1, awR2, awR3]) := Lib.hid (by
    have hB := BlockIs.of hbk
    rw [hcs1] at hB
    exact slice3 (by decide) (row_of hB awR1 rfl rfl rfl rfl rfl rfl) (row_of hB awR2 rfl rfl rfl rfl rfl rfl) (row_of hB awR3 rfl rfl rfl rfl rfl rfl))
  have HB2 := Lib.hid (bthen HBz.out hb2)
  have HC2 := Lib.hid (HCz.out.ext (Ext.below hb2))
  have HE2 := Lib.hid (Ext.below hb2)
  have HK2 := Lib.hid hbk
  have HQ := Lib.hid hq
  have HCS := Lib.hid hcs1
  have hqg : g < q := by omega
  clear hb2 hbk hw2 hq hcs1 hg hzs hgz
  refine (rows_any pc _ _ [awR1, awR2, awR3] _ ⟨_, _, _, rfl, HC2.out.is⟩ HR1.out).mono ?_
  rw [L.out.1]
  rintro e w3 ⟨rfl, hb3⟩
  have HB3 := Lib.hid (bthen HB2.out hb3)
  have HC3 := Lib.hid (HC2.out.ext (Ext.below hb3))
  have HE3 := Lib.hid (HE2.out.trans (Ext.below hb3))
  have HK3 := Lib.hid (keep_blk HK2.out hb3)
  have HR3 := Lib.hid (HR1.out.ext (Ext.below hb3))
  clear hb3 HB2 HC2 HE2 HK2 HR1
  have z0 := HC3.out.c0; have z1 := HC3.out.c1; have z2 := HC3.out.c2; have z3 := HC3.out.c3; have z4 := HC3.out.c4; unfold IntAt at z0 z1
  go_wp2_with fail
  refine (shares_any pc _ _ [awR1, awR2, awR3] _ ⟨_, _, _, rfl, HC3.out.is⟩ HR3.out).mono ?_
  rw [L.out.2.1, L.out.2.2.1]
  rintro e w4 ⟨u, rfl, hu, hun, hb4⟩
  have HB4 := Lib.hid (bthen HB3.out hb4)
  have HE4 := Lib.hid (HE3.out.trans (Ext.below hb4))
  have HC4 := Lib.hid (HC3.out.ext (Ext.below hb4))
  have hqs : q < w3.heap.size := lt_of_block HK3.out
  have HUN : Hid (∀ b, u.ownBlock = some b → b ≠ q) := Lib.hid (fun b hb => by have := hun b hb; omega)
  have HU := Lib.hid hu
  have HK4 := Lib.hid (keep_blk HK3.out hb4)
  clear hb4 HB3 HC3 HE3 HK3 HR3 hu hun hqs z0 z1 z2 z3 z4
  have z0 := HC4.out.c0; have z1 := HC4.out.c1; have z2 := HC4.out.c2; have z3 := HC4.out.c3; have z4 := HC4.out.c4; unfold IntAt at z0 z1
  have r6 : w4.cell? ⟨q, 6, none⟩ = some (.int .i64 (-1)) := BlockIs.of HK4.out 6 _ (by rw [HCS.out]; rfl)
  have rf6 : w4.frozen? ⟨q, 6, none⟩ = false := by unfold World.frozen?; rw [HK4.out]; simp
  have hne : g ≠ q := by omega
  go_wp2_with fail
  have hbk5 := blk_set HK4.out 6 (.int .i64 0)
  have hE5 := HE4.out.set_new (q := q) (by rw [HQ.out]; exact Nat.le_refl _) 6 (.int .i64 0)
  have hB5 : Below w.heap.size w (w4.setCell ⟨q, 6, none⟩ (.int .i64 0)) := HB4.out.setCell (p := ⟨q, 6, none⟩) (by have := HBz.out.size; have := HQ.out; simp; omega) _
  have hU5 := HU.out.far HUN.out 6 (.int .i64 0)
  obtain ⟨w5, hw5⟩ : ∃ w5, w5 = w4.setCell ⟨q, 6, none⟩ (.int .i64 0) := ⟨_, rfl⟩
  rw [← hw5] at hbk5 hE5 hB5 hU5 ⊢
  have HR5 : Hid (RowsV w5 (.slice (some ⟨q, 0, none⟩) 3 3) [awR1, awR2', awR3]) := Lib.hid (by
    have hB := BlockIs.of hbk5
    rw [HCS.out] at hB
    exact slice3 (by decide) (row_of hB awR1 rfl rfl rfl rfl rfl rfl) (row_of hB awR2' rfl rfl rfl rfl rfl rfl) (row_of hB awR3 rfl rfl rfl rfl rfl rfl))
  have HB5 := Lib.hid hB5
  have HC5 := Lib.hid (HCz.out.ext hE5)
  have HU5 := Lib.hid hU5
  clear hbk5 hE5 hB5 hU5 hw5 HB4 HE4 HC4 HUN HU HK4 HCS HQ r6 rf6 z0 z1 z2 z3 z4 HCz HBz
  refine (rows_any pc _ _ [awR1, awR2', awR3] _ ⟨_, _, _, rfl, HC5.out.is⟩ HR5.out).mono ?_
  rw [L.out.2.2.2.1]
  rintro e w6 ⟨rfl, hb6⟩
  have HB6 := Lib.hid (bthen HB5.out hb6)
  have HC6 := Lib.hid (HC5.out.ext (Ext.below hb6))
  have HU6 := Lib.hid (HU5.out.ext (Ext.below hb6))
  clear hb6 HB5 HC5 HU5 HR5
  have z0 := HC6.out.c0; have z1 := HC6.out.c1; have z2 := HC6.out.c2; have z3 := HC6.out.c3; have z4 := HC6.out.c4; unfold IntAt at z0 z1
  go_wp2_with fail
  refine (rows_any pc _ _ [awR4] _ ⟨_, _, _, rfl, HC6.out.is.ext (Ext.alloc _ _)⟩ (rows1 (BlockIs.of (blk_new _ _)) awR4 rfl rfl rfl rfl rfl rfl)).mono ?_
  rw [L.out.2.2.2.2.1]
  rintro e w7 ⟨rfl, hb7⟩
  have HB7 := Lib.hid (bthen HB6.out (bthen (balloc _ _) hb7))
  have HC7 := Lib.hid (HC6.out.ext ((Ext.alloc _ _).trans (Ext.below hb7)))
  have HU7 := Lib.hid (HU6.out.ext ((Ext.alloc _ _).trans (Ext.below hb7)))
  clear hb7 HB6 HC6 HU6 z0 z1 z2 z3 z4
  have z0 := HC7.out.c0; have z1 := HC7.out.c1; have z2 := HC7.out.c2; have z3 := HC7.out.c3; have z4 := HC7.out.c4; unfold IntAt at z0 z1
  go_wp2_with fail
  refine (rows_any pc _ _ [awR5] _ ⟨_, _, _, rfl, HC7.out.is.ext (Ext.alloc _ _)⟩ (rows1 (BlockIs.of (blk_new _ _)) awR5 rfl rfl rfl rfl rfl rfl)).mono ?_
  rw [L.out.2.2.2.2.2]
  rintro e w8 ⟨rfl, hb8⟩
  have HB8 := Lib.hid (bthen HB7.out (bthen (balloc _ _) hb8))
  have HU8 := Lib.hid (HU7.out.ext ((Ext.alloc _ _).trans (Ext.below hb8)))
  clear hb8 HB7 HC7 HU7 z0 z1 z2 z3 z4
  go_wp2_with (first | (go_at_call 11; refine (num_any _ _).mono ?_; rintro e w' ⟨rfl, hw⟩; subst w') | fail)
  refine (sameInts_any _ _ [1, 1] _ (HU8.out.ext (Ext.alloc _ _)) (slice2 (by decide) (BlockIs.of (blk_new _ _) 0 _ rfl) (BlockIs.of (blk_new _ _) 1 _ rfl))).mono ?_
  rintro e w9 ⟨rfl, hb9⟩
  have HB9 := Lib.hid (bthen HB8.out (bthen (balloc _ _) hb9))
  clear hb9 HB8
  go_wp2_with (first | (go_at_call 11; refine (num_any _ _).mono ?_; rintro e w' ⟨rfl, hw⟩; subst w') | fail)
  go_ret
  exact ⟨rfl, HB9.out⟩
end Go.Proofs.Ytfhebonhcolbdaa
