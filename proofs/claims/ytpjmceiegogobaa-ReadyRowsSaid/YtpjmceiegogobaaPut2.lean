/- ready.Put. -/
import Derived.Test.YtpjmceiegogobaaPutJ
import Derived.Test.YtpjmceiegogobaaRegI
set_option linter.unusedVariables false
set_option linter.unusedSimpArgs false
namespace Go.Proofs.Ytpjmceiegogobaa
open Go.RowKit

def putE (js : List Job) (x : Job) : Int := if jobsMay js = false ∨ jobMay x = false then 1200 else if hit js x = true then 1200 else if js.length = 16 then 1201 else 0
def putL (js : List Job) (x : Job) : List Job := js.take (pos js x) ++ [x] ++ js.drop (pos js x)
theorem pos_le (js : List Job) (x : Job) : pos js x ≤ js.length := by
  unfold pos
  exact (List.takeWhile_sublist _).length_le
theorem own_in {w : World} {b : Nat} {e : TypeId} {size n : Nat} {v : Value} {xs : List Value} (h : w.ownsRow b e size v n xs) {g : Nat} (hg : v.ownBlock = some g) : b ≤ g ∧ g < w.heap.size := h.lt g hg
/-- What holds while the last region of ready.Put runs. -/
structure PtInv (wR : World) (v : Value) (js : List Job) (x : Job) (L : Nat → Bool) (vs : Nat → Value) (W : World) : Prop where
  below : Below wR.heap.size wR W
  i0 : L 0 = true → vs 0 = v
  i1 : L 1 = true → L 5 = false → JobRow W wR.heap.size (vs 1) js
  i2 : L 2 = true → vs 2 = .int .i64 (pos js x)
  i3 : L 3 = true → vs 3 = jobV x
  i4 : L 4 = true → L 5 = false → ∃ g, vs 4 = .slice (some ⟨g, 0, none⟩) 1 1 ∧ W.heap[g]? = some (.cells (jobCells x).toArray 24 (0, 0))
  ne : L 1 = true → L 4 = true → (vs 1).ownBlock ≠ (vs 4).ownBlock
  i5 : L 5 = true → JobRow W wR.heap.size (vs 5) (putL js x)
  i6 : L 6 = true → vs 6 = vs 5
  i7 : L 7 = true → vs 7 = .int .i64 0
theorem PtInv.keep {wR : World} {v : Value} {js : List Job} {x : Job} {L : Nat → Bool} {vs : Nat → Value} {W W' : World} (h : PtInv wR v js x L vs W) (hb : Below W.heap.size W W') : PtInv wR v js x L vs W' :=
  ⟨bthen h.below hb, h.i0, fun a b => Below.kept (h.i1 a b) hb, h.i2, h.i3, fun a b => by obtain ⟨g, h1, h2⟩ := h.i4 a b; exact ⟨g, h1, keep_at h2 hb⟩, h.ne, fun a => Below.kept (h.i5 a) hb, h.i6, h.i7⟩
set_option maxRecDepth 100000 in
set_option maxHeartbeats 2000000 in
theorem put_any (v : Value) (js : List Job) (x : Job) (w : World) (hv : JobsV w v js) :
    Calls Try.prog 9 #[v, jobV x] w fun e w' => ∃ v', e = .returned (.tuple #[v', .int .i64 (putE js x)]) ∧ (putE js x ≠ 0 → v' = .slice none 0 0) ∧ (putE js x = 0 → JobRow w' w.heap.size v' (putL js x)) ∧ Below w.heap.size w w' := by
  obtain ⟨a, cap, rfl, -⟩ := id hv
  have hb0 := bthen (balloc w (.cells #[.int .i64 x.task, .int .i64 x.seq, .int .i64 x.prio, .int .i64 x.release, .int .i64 x.deadline, .int .i64 x.demand, .int .i64 x.used] 24)) (balloc _ (.cells #[.slice a js.length cap, .int .i64 x.task, .int .i64 x.seq, .int .i64 x.prio, .int .i64 x.release, .int .i64 x.deadline, .int .i64 x.demand, .int .i64 x.used] 52))
  have HV := Lib.hid hv
  have HB0 := Lib.hid hb0
  clear hv hb0
  go_enter Try.func9, Try.ntmps9
  go_wp2_with fail
  obtain ⟨wz, hwz⟩ : ∃ wz, wz = (w.alloc (.cells #[.int .i64 x.task, .int .i64 x.seq, .int .i64 x.prio, .int .i64 x.release, .int .i64 x.deadline, .int .i64 x.demand, .int .i64 x.used] 24)).alloc (.cells #[.slice a js.length cap, .int .i64 x.task, .int .i64 x.seq, .int .i64 x.prio, .int .i64 x.release, .int .i64 x.deadline, .int .i64 x.demand, .int .i64 x.used] 52) := ⟨_, rfl⟩
  obtain ⟨bx, hbx⟩ : ∃ bx, bx = w.heap.size := ⟨_, rfl⟩
  have hx1 : wz.heap[bx]? = some (.cells #[.int .i64 x.task, .int .i64 x.seq, .int .i64 x.prio, .int .i64 x.release, .int .i64 x.deadline, .int .i64 x.demand, .int .i64 x.used] 24 (0, 0)) := by rw [hwz, hbx]; exact keep_at (blk_new w _) (balloc _ _)
  have hx2 : wz.heap[bx + 1]? = some (.cells #[.slice a js.length cap, .int .i64 x.task, .int .i64 x.seq, .int .i64 x.prio, .int .i64 x.release, .int .i64 x.deadline, .int .i64 x.demand, .int .i64 x.used] 52 (0, 0)) := by rw [hwz, hbx]; have h := blk_new (w.alloc (.cells #[.int .i64 x.task, .int .i64 x.seq, .int .i64 x.prio, .int .i64 x.release, .int .i64 x.deadline, .int .i64 x.demand, .int .i64 x.used] 24)) (.cells #[.slice a js.length cap, .int .i64 x.task, .int .i64 x.seq, .int .i64 x.prio, .int .i64 x.release, .int .i64 x.deadline, .int .i64 x.demand, .int .i64 x.used] 52); rwa [show (w.alloc (.cells #[.int .i64 x.task, .int .i64 x.seq, .int .i64 x.prio, .int .i64 x.release, .int .i64 x.deadline, .int .i64 x.demand, .int .i64 x.used] 24)).heap.size = w.heap.size + 1 by simp] at h
  have HVz := Lib.hid (HV.out.ext (Ext.below HB0.out))
  rw [← hwz] at HVz HB0 ⊢
  rw [← hbx]
  have HX := Lib.hid (And.intro hx1 hx2)
  have HBX := Lib.hid hbx
  clear hwz hbx hx1 hx2
  by_cases hm : jobsMay js = true
  · have HM := Lib.hid hm
    clear hm
    refine (rowMay_any (bx + 1) _ js _ (BlockIs.of HX.out.2 0 _ rfl) HVz.out).mono ?_
    rw [HM.out]
    rintro e w1 ⟨rfl, hb1⟩
    have hx1 := keep_at HX.out.1 hb1
    have hx2 := keep_at HX.out.2 hb1
    have HX1 := Lib.hid (And.intro hx1 hx2)
    have HV1 := Lib.hid (HVz.out.ext (Ext.below hb1))
    have HB1 := Lib.hid (bthen HB0.out hb1)
    have HJ1 := Lib.hid (show JobAt w1 (bx + 1) 1 x from ⟨BlockIs.of hx2 1 _ rfl, BlockIs.of hx2 2 _ rfl, BlockIs.of hx2 3 _ rfl, BlockIs.of hx2 4 _ rfl, BlockIs.of hx2 5 _ rfl, BlockIs.of hx2 6 _ rfl, BlockIs.of hx2 7 _ rfl⟩)
    clear hb1 hx1 hx2
    go_wp2_with fail
    refine (jobB_any (bx + 1) 1 x _ HJ1.out).mono ?_
    by_cases hj : jobMay x = true
    · rw [hj]
      rintro e w2 ⟨rfl, hb2⟩
      have HJ := Lib.hid hj
      have hx1 := keep_at HX1.out.1 hb2
      have hx2 := keep_at HX1.out.2 hb2
      have HV2 := Lib.hid (HV1.out.ext (Ext.below hb2))
      have HB2 := Lib.hid (bthen HB1.out hb2)
      have hD : Below w2.heap.size w2 w2.drew := below_drew (Below.refl _ _)
      have hS0 : (fun w' : World => w'.cell? ⟨bx, 0, none⟩ = some (.int .i64 x.task) ∧ w'.cell? ⟨bx, 1, none⟩ = some (.int .i64 x.seq) ∧ w'.cell? ⟨bx, 2, none⟩ = some (.int .i64 x.prio) ∧ w'.cell? ⟨bx, 3, none⟩ = some (.int .i64 x.release) ∧ w'.cell? ⟨bx, 4, none⟩ = some (.int .i64 x.deadline) ∧ w'.cell? ⟨bx, 5, none⟩ = some (.int .i64 x.demand) ∧ w'.cell? ⟨bx, 6, none⟩ = some (.int .i64 x.used) ∧ w'.cell? ⟨bx + 1, 0, none⟩ = some (.slice a js.length cap) ∧ Below w2.heap.size w2 w') w2.drew := ⟨BlockIs.of hx1 0 _ rfl, BlockIs.of hx1 1 _ rfl, BlockIs.of hx1 2 _ rfl, BlockIs.of hx1 3 _ rfl, BlockIs.of hx1 4 _ rfl, BlockIs.of hx1 5 _ rfl, BlockIs.of hx1 6 _ rfl, BlockIs.of hx2 0 _ rfl, hD⟩
      have kS : ∀ W W' : World, (fun w' : World => w'.cell? ⟨bx, 0, none⟩ = some (.int .i64 x.task) ∧ w'.cell? ⟨bx, 1, none⟩ = some (.int .i64 x.seq) ∧ w'.cell? ⟨bx, 2, none⟩ = some (.int .i64 x.prio) ∧ w'.cell? ⟨bx, 3, none⟩ = some (.int .i64 x.release) ∧ w'.cell? ⟨bx, 4, none⟩ = some (.int .i64 x.deadline) ∧ w'.cell? ⟨bx, 5, none⟩ = some (.int .i64 x.demand) ∧ w'.cell? ⟨bx, 6, none⟩ = some (.int .i64 x.used) ∧ w'.cell? ⟨bx + 1, 0, none⟩ = some (.slice a js.length cap) ∧ Below w2.heap.size w2 w') W → Below W.heap.size W W' → (fun w' : World => w'.cell? ⟨bx, 0, none⟩ = some (.int .i64 x.task) ∧ w'.cell? ⟨bx, 1, none⟩ = some (.int .i64 x.seq) ∧ w'.cell? ⟨bx, 2, none⟩ = some (.int .i64 x.prio) ∧ w'.cell? ⟨bx, 3, none⟩ = some (.int .i64 x.release) ∧ w'.cell? ⟨bx, 4, none⟩ = some (.int .i64 x.deadline) ∧ w'.cell? ⟨bx, 5, none⟩ = some (.int .i64 x.demand) ∧ w'.cell? ⟨bx, 6, none⟩ = some (.int .i64 x.used) ∧ w'.cell? ⟨bx + 1, 0, none⟩ = some (.slice a js.length cap) ∧ Below w2.heap.size w2 w') W' := by
        rintro W W' ⟨b0, b1, b2, b3, b4, b5, b6, b7, hB⟩ hb
        exact ⟨Ext.below hb _ _ b0, Ext.below hb _ _ b1, Ext.below hb _ _ b2, Ext.below hb _ _ b3, Ext.below hb _ _ b4, Ext.below hb _ _ b5, Ext.below hb _ _ b6, Ext.below hb _ _ b7, bthen hB hb⟩
      have HX2 := Lib.hid (And.intro hx1 hx2)
      clear hj hb2 hx1 hx2
      go_wp2_with fail
      go_region_held3 (fun w' : World => w'.cell? ⟨bx, 0, none⟩ = some (.int .i64 x.task) ∧ w'.cell? ⟨bx, 1, none⟩ = some (.int .i64 x.seq) ∧ w'.cell? ⟨bx, 2, none⟩ = some (.int .i64 x.prio) ∧ w'.cell? ⟨bx, 3, none⟩ = some (.int .i64 x.release) ∧ w'.cell? ⟨bx, 4, none⟩ = some (.int .i64 x.deadline) ∧ w'.cell? ⟨bx, 5, none⟩ = some (.int .i64 x.demand) ∧ w'.cell? ⟨bx, 6, none⟩ = some (.int .i64 x.used) ∧ w'.cell? ⟨bx + 1, 0, none⟩ = some (.slice a js.length cap) ∧ Below w2.heap.size w2 w') (first | exact hS0 | exact kS _ _ hS0 hb3) ((go_at_call 26; refine (place_any (bx + 1) (.slice a js.length cap) js x _ (Ext.below hD _ _ (BlockIs.of HX2.out.2 0 _ rfl)) (HV2.out.ext (Ext.below hD)) HM.out).mono ?_; rintro e w3 ⟨rfl, hb3⟩))
      have HB3 := Lib.hid (bthen HB2.out (bthen hD hb3))
      have HV3 := Lib.hid (HV2.out.ext (Ext.below (bthen hD hb3)))
      have HX3 := Lib.hid (keep_at HX2.out.1 (bthen hD hb3))
      clear hS0 kS hb3 hD
      by_cases hh : hit js x = true
      · have HE := Lib.hid (show putE js x = 1200 by unfold putE; rw [if_neg (by rw [HM.out, HJ.out]; simp), if_pos hh])
        rw [hh]
        clear hh
        go_wp2_with fail
        go_ret2
        exact ⟨_, (by rw [HE.out]; rfl), (fun _ => rfl), (fun h => absurd (HE.out.symm.trans h) (by decide)), HB3.out⟩
      · have HH := Lib.hid hh
        have hh : hit js x = false := by simpa using hh
        rw [hh]
        clear hh
        by_cases h16 : js.length = 16
        · have HE := Lib.hid (show putE js x = 1201 by unfold putE; rw [if_neg (by rw [HM.out, HJ.out]; simp), if_neg HH.out, if_pos h16])
          have h16' : ((js.length : Int) == 16) = true := by simp [h16]
          clear h16
          go_wp2_with fail
          go_ret2
          exact ⟨_, (by rw [HE.out]; rfl), (fun _ => rfl), (fun h => absurd (HE.out.symm.trans h) (by decide)), HB3.out⟩
        · have HE := Lib.hid (show putE js x = 0 by unfold putE; rw [if_neg (by rw [HM.out, HJ.out]; simp), if_neg HH.out, if_neg h16])
          have h16' : ((js.length : Int) == 16) = false := by simp; omega
          clear h16
          go_wp2_with fail
          refine region_inv rfl (by kernel_rfl) (PtInv w3 (.slice a js.length cap) js x) (fun vs => ⟨below_drew (Below.refl _ _), by simp, by simp, by simp, by simp, by simp, by simp, by simp, by simp, by simp⟩) ?_ ?_
          · simp only [List.map, putAll, Act.put, InvE, List.setIfInBounds_toArray, List.set_cons_succ, List.set_cons_zero, Nat.reduceAdd]
            refine ⟨?_, ?_, ?_, ?_, ?_, ?_, ?_, ?_, trivial⟩
            all_goals
              intro L vs W hI hi hn hcl K hK
              rw [if_pos (by simp [Region.wanted])]
            · have HK := Lib.hid (fun v h => hK v W ⟨hI.below, fun _ => h, hI.i1, hI.i2, hI.i3, hI.i4, hI.ne, hI.i5, hI.i6, hI.i7⟩)
              clear hK hI hn hcl
              go_simp
              exact HK.out _ rfl
            · have r0 := hI.i0 (hn 0 rfl)
              simp only [r0] at hK ⊢
              have HK := Lib.hid hK
              have HI := Lib.hid hI
              have HC := Lib.hid (fun (q : L 5 = true) => (hcl 5 _ rfl q 1 rfl : L 1 = true))
              have HL := Lib.hid hi
              clear hK hI hn hcl hi
              go_simp
              go_at_call 28
              refine (cloneJob_any _ js W (HV3.out.ext (Ext.below HI.out.below))).mono ?_
              rintro e w' ⟨v', rfl, hrow, hb⟩
              have k := HI.out.keep hb
              have h5 : L 5 = false := by
                cases h : L 5
                · rfl
                · exact absurd (HC.out h) (by have := HL.out; first | exact Bool.eq_false_iff.1 this | (simp only [Nat.zero_add] at this; exact Bool.eq_false_iff.1 this))
              exact HK.out _ w' ⟨k.below, k.i0, fun _ _ => own_lower hrow HI.out.below.size, k.i2, k.i3, k.i4, fun _ h4 e => by
                have e : v'.ownBlock = (vs 4).ownBlock := e
                obtain ⟨g, h1, h2⟩ := HI.out.i4 h4 h5
                rw [h1] at e
                have := (show W.heap.size ≤ g from (own_in hrow e).1)
                have := lt_of_block h2
                omega, k.i5, k.i6, k.i7⟩
            · have HK := Lib.hid (fun v h => hK v W ⟨hI.below, hI.i0, hI.i1, fun _ => h, hI.i3, hI.i4, hI.ne, hI.i5, hI.i6, hI.i7⟩)
              clear hK hI hn hcl
              go_simp
              exact HK.out _ rfl
            · have hx := keep_at HX3.out hI.below
              have x0 := BlockIs.of hx 0 _ rfl
              have x1 := BlockIs.of hx 1 _ rfl
              have x2 := BlockIs.of hx 2 _ rfl
              have x3 := BlockIs.of hx 3 _ rfl
              have x4 := BlockIs.of hx 4 _ rfl
              have x5 := BlockIs.of hx 5 _ rfl
              have x6 := BlockIs.of hx 6 _ rfl
              have HK := Lib.hid (fun v h => hK v W ⟨hI.below, hI.i0, hI.i1, hI.i2, fun _ => h, hI.i4, hI.ne, hI.i5, hI.i6, hI.i7⟩)
              clear hK hI hn hcl hx
              go_simp
              exact HK.out _ rfl
            · have r3 := hI.i3 (hn 3 rfl)
              simp only [r3] at hK ⊢
              have HK := Lib.hid hK
              have HI := Lib.hid hI
              have HC := Lib.hid (fun (q : L 5 = true) => (hcl 5 _ rfl q 4 rfl : L 4 = true))
              have HL := Lib.hid hi
              clear hK hI hn hcl hi
              go_simp
              have h5 : L 5 = false := by
                cases h : L 5
                · rfl
                · exact absurd (HC.out h) (by have := HL.out; first | exact Bool.eq_false_iff.1 this | (simp only [Nat.zero_add] at this; exact Bool.eq_false_iff.1 this))
              have k := HI.out.keep (balloc W (.cells #[.int .i64 x.task, .int .i64 x.seq, .int .i64 x.prio, .int .i64 x.release, .int .i64 x.deadline, .int .i64 x.demand, .int .i64 x.used] 24))
              exact HK.out _ _ ⟨k.below, k.i0, k.i1, k.i2, k.i3, fun _ _ => ⟨W.heap.size, rfl, blk_new _ _⟩, fun h1 _ e => by
                have e : (vs 1).ownBlock = some W.heap.size := e
                have := (own_in (HI.out.i1 h1 h5) e).2
                omega, k.i5, k.i6, k.i7⟩
            · have h1 : L 1 = true := hn 1 rfl
              have h4 : L 4 = true := hn 4 rfl
              have h5 : L 5 = false := hi
              obtain ⟨g, e4, hg⟩ := hI.i4 h4 h5
              have r1 := hI.i1 h1 h5
              have hne := hI.ne h1 h4
              rw [e4] at hne
              have HR := Lib.hid (And.intro r1 (And.intro hg hne))
              obtain ⟨ca, cc, e1⟩ := own_shape r1
              have e2 := hI.i2 (hn 2 rfl)
              have H6 := Lib.hid (show L 6 = false by
                cases h : L 6
                · rfl
                · exact absurd (hcl 6 _ rfl h 5 rfl) (Bool.eq_false_iff.1 h5))
              have HE1 := Lib.hid e1
              simp only [e1, e2, e4] at hK ⊢
              have HK := Lib.hid hK
              have HI := Lib.hid hI
              clear hK hI hn hcl hi r1 hg hne e1 e2 e4
              go_simp
              go_at_call 27
              refine (insert_any w3.heap.size g (pos js x) (.slice ca js.length cc) js x W (HE1.out ▸ HR.out.1) HR.out.2.1 (HE1.out ▸ HR.out.2.2) (pos_le js x) (by have := ((jobsMay_iff js).1 HM.out).2; omega) HI.out.below.size).mono ?_
              rintro e w' ⟨v', rfl, hrow, hb⟩
              exact HK.out _ w' ⟨HI.out.below.trans hb, HI.out.i0, fun _ q => absurd q (by simp [updB]), HI.out.i2, HI.out.i3, fun _ q => absurd q (by simp [updB]), HI.out.ne, fun _ => hrow, fun q => absurd q (Bool.eq_false_iff.1 H6.out), HI.out.i7⟩
            · have HK := Lib.hid (fun v h => hK v W ⟨hI.below, hI.i0, hI.i1, hI.i2, hI.i3, hI.i4, hI.ne, hI.i5, fun _ => h, hI.i7⟩)
              clear hK hI hn hcl
              go_simp
              exact HK.out _ rfl
            · have HK := Lib.hid (fun v h => hK v W ⟨hI.below, hI.i0, hI.i1, hI.i2, hI.i3, hI.i4, hI.ne, hI.i5, hI.i6, fun _ => h⟩)
              clear hK hI hn hcl
              go_simp
              exact HK.out _ rfl
          · intro vs W hI
            simp only [List.map, putAll, Act.put, List.setIfInBounds_toArray, List.set_cons_succ, List.set_cons_zero, Nat.reduceAdd]
            have hr := hI.i5 (by simp)
            have e6 := hI.i6 (by simp)
            have e7 := hI.i7 (by simp)
            have HB4 := Lib.hid (bthen HB3.out hI.below)
            obtain ⟨ca, cc, e5⟩ := own_shape hr
            rw [e5] at e6 hr
            simp only [e6, e7]
            have HR := Lib.hid (own_lower hr HB3.out.size)
            clear hI hr e5 e6 e7
            go_wp2_with fail
            go_ret2
            exact ⟨_, (by rw [HE.out]; rfl), (fun h => absurd HE.out h), (fun _ => HR.out), HB4.out⟩
    · have hj : jobMay x = false := by simpa using hj
      have HE := Lib.hid (show putE js x = 1200 by unfold putE; rw [if_pos (.inr hj)])
      rw [hj]
      rintro e w2 ⟨rfl, hb2⟩
      have HB2 := Lib.hid (bthen HB1.out hb2)
      clear hb2 hj
      go_wp2_with fail
      go_ret2
      exact ⟨_, (by rw [HE.out]; rfl), (fun _ => rfl), (fun h => absurd (HE.out.symm.trans h) (by decide)), HB2.out⟩
  · have hm : jobsMay js = false := by simpa using hm
    have HE := Lib.hid (show putE js x = 1200 by unfold putE; rw [if_pos (.inl hm)])
    have HM := Lib.hid hm
    clear hm
    refine (rowMay_any (bx + 1) _ js _ (BlockIs.of HX.out.2 0 _ rfl) HVz.out).mono ?_
    rw [HM.out]
    rintro e w1 ⟨rfl, hb1⟩
    have HB1 := Lib.hid (bthen HB0.out hb1)
    clear hb1
    go_wp2_with fail
    go_ret2
    exact ⟨_, (by rw [HE.out]; rfl), (fun _ => rfl), (fun h => absurd (HE.out.symm.trans h) (by decide)), HB1.out⟩
end Go.Proofs.Ytpjmceiegogobaa
