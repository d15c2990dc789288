/- Chapter 14's law JobKills (printed by gen14c.py). -/
import Derived.Test.YtbkhnlacabaagaaLaw14a
import Derived.Test.YtbkhnlacabaagaaLoneP
set_option linter.unusedVariables false
set_option linter.unusedSimpArgs false
namespace Go.Proofs.Ytbkhnlacabaagaa
open Go.RowKit

def kT (a b : Int) : Task := ⟨1, 40, 40, a, b, 0⟩
def kJ (d u : Int) : Job := ⟨0, 0, 0, 7, 47, d, u⟩
def kS (l a b d u : Int) : LSt := loneS 2 l (kT a b) ⟨7, []⟩ 1 [kJ d u]
def kN (l a b : Int) : LSt := loneS 2 l (kT a b) ⟨7, []⟩ 1 []
theorem kT_may {a b : Int} (h1 : 1 ≤ a) (h2 : a ≤ b) (h3 : b ≤ 40) : taskMay (kT a b) = true := by
  unfold taskMay kT
  refine decide_eq_true ?_
  dsimp only
  omega
theorem kill_begin {l a b d : Int} (h1 : 1 ≤ a) (h2 : a ≤ b) (h3 : b ≤ 40) (hd : 1 ≤ d) (hd2 : d ≤ 32) :
    pickErr (loneS 2 l (kT a b) ⟨-1, []⟩ 0 []) 0 d 7 = 0 ∧ pickSt (loneS 2 l (kT a b) ⟨-1, []⟩ 0 []) 0 d 7 = loneS 2 l (kT a b) ⟨-1, [d]⟩ 0 [] ∧ pickEv (loneS 2 l (kT a b) ⟨-1, []⟩ 0 []) 0 d 7 = [] ∧ begS (loneS 2 l (kT a b) ⟨-1, [d]⟩ 0 []) 7 = kS l a b d 0 ∧ begE (loneS 2 l (kT a b) ⟨-1, [d]⟩ 0 []) 7 = [⟨1, 2, 0, d⟩] := by
  have hm := kT_may h1 h2 h3
  have hdm : demP d = true := by unfold demP; refine decide_eq_true ?_; omega
  have hp : pairMay (kT a b) ⟨-1, []⟩ = true := by unfold pairMay; simp [hm]
  have hp2 : pairMay (kT a b) ⟨-1, [d]⟩ = true := by unfold pairMay; simp [hm, hdm]
  obtain ⟨q1, q2, q3⟩ := lone_pick (i := 2) (l := l) (t := kT a b) (s := ⟨-1, []⟩) (q := 0) (js := []) (d := d) (now := 7) (by decide) (by unfold pickE; rw [hp, hdm]; rfl)
  have hl : lateB (kT a b) ⟨-1, [d]⟩ 7 = false := by
    unfold lateB
    rw [show soonB (kT a b) ⟨-1, [d]⟩ 7 = true by unfold soonB; simp]
    simp
  have hr : relIs (kT a b) ⟨-1, [d]⟩ 7 = true := by
    unfold relIs
    rw [hp2]
    rw [show comesB (kT a b) ⟨-1, [d]⟩ 7 = true by unfold comesB soonB kT; simp]
    decide
  have hj : jobMay (loneJ (kT a b) ⟨-1, [d]⟩ 0 7) = true := by
    unfold jobMay loneJ kT relD
    refine decide_eq_true ?_
    dsimp only [List.headD_cons]
    omega
  obtain ⟨p1, p2⟩ := putE_nil hj
  have hlf : leftJ [] 7 = [] := rfl
  obtain ⟨r1, r2⟩ := lone_begin (i := 2) (l := l) (t := kT a b) (s := ⟨-1, [d]⟩) (q := 0) (now := 7) (js := []) hr (by rw [hlf]; exact p1)
  refine ⟨q1, q2, by rw [q3]; simp only [List.nil_append]; rw [hl]; rfl, ?_, ?_⟩
  · rw [r1, hlf, p2]
    rfl
  · rw [r2]
    rfl
theorem kill_run (l a b d k : Int) (hlb : (l = 0 ∧ b = a) ∨ l = 1) :
    runV (kS l a b d (k - 1)) = ⟨decide (l = 1) && (k == a) && !(k == d), k == d, !(k == d) && (k == b)⟩ ∧ runE (kS l a b d (k - 1)) = 0 ∧ runEv (kS l a b d (k - 1)) = evIf (decide (l = 1) && (k == a) && !(k == d)) ⟨4, 2, 0, k⟩ ++ evIf (k == d) ⟨5, 2, 0, k⟩ ++ evIf (!(k == d) && (k == b)) ⟨6, 2, 0, k⟩ ∧ runS (kS l a b d (k - 1)) = if ((k == d) || (!(k == d) && (k == b))) = true then kN l a b else kS l a b d k := by
  obtain ⟨h1, h2, h3, h4⟩ := lone_run (i := 2) (l := l) (t := kT a b) (s := ⟨7, []⟩) (q := 1) (j := kJ d (k - 1)) (r := []) rfl
  have e : k - 1 + 1 = k := by omega
  have hv : chV (kJ d (k - 1)) (kT a b) l = ⟨decide (l = 1) && (k == a) && !(k == d), k == d, !(k == d) && (k == b)⟩ := by
    unfold chV kJ kT limI
    simp only [e]
    rcases hlb with ⟨rfl, rfl⟩ | rfl <;> simp
  rw [hv] at h1 h2 h4
  refine ⟨h1, h3, ?_, ?_⟩
  · show runEv (loneS 2 l (kT a b) ⟨7, []⟩ 1 [kJ d (k - 1)]) = _
    rw [h4]
    simp only [kJ, e]
  · show runS (loneS 2 l (kT a b) ⟨7, []⟩ 1 [kJ d (k - 1)]) = _
    rw [h2]
    simp only [chJ, kJ, e]
    rfl
set_option maxRecDepth 100000 in
set_option maxHeartbeats 16000000 in
theorem jobKills_true (demand low high : Int) (w : World) :
    Calls Try.prog 9 #[.int .i64 demand, .int .i64 low, .int .i64 high, .bool true] w fun e w' => e = .returned (.bool true) ∧ Below w.heap.size w w' := by
  obtain ⟨y, hy⟩ := Int.eq_ofNat_of_zero_le (show 0 ≤ bits BinOp.and IntKind.i64 low 7 by rw [i64_and7]; omega)
  have hy1 : y ≤ 7 := by have := i64_and7 low; omega
  obtain ⟨a, ha⟩ : ∃ a : Nat, a = 1 + y := ⟨_, rfl⟩
  have hd1 : IntKind.i64.wrap (1 + (y : Int)) = (a : Int) := by rw [IntKind.wrap_i64]; omega
  obtain ⟨z, hz⟩ := Int.eq_ofNat_of_zero_le (show 0 ≤ bits BinOp.and IntKind.i64 high 7 by rw [i64_and7]; omega)
  have hz1 : z ≤ 7 := by have := i64_and7 high; omega
  obtain ⟨b, hb0⟩ : ∃ b : Nat, b = a + z := ⟨_, rfl⟩
  have hd2 : IntKind.i64.wrap ((a : Int) + (z : Int)) = (b : Int) := by rw [IntKind.wrap_i64]; omega
  have hab : a ≤ b ∧ b ≤ 15 := by omega
  have HB0 := Lib.hid hb0
  clear hb0
  obtain ⟨x, hx⟩ := Int.eq_ofNat_of_zero_le (show 0 ≤ bits BinOp.and IntKind.i64 demand 31 by rw [i64_and31]; omega)
  have hx1 : x ≤ 31 := by have := i64_and31 demand; omega
  obtain ⟨d, hd⟩ : ∃ d : Nat, d = 1 + x := ⟨_, rfl⟩
  have hd3 : IntKind.i64.wrap (1 + (x : Int)) = (d : Int) := by rw [IntKind.wrap_i64]; omega
  have HAB := Lib.hid (show 1 ≤ a ∧ a ≤ b ∧ b ≤ 40 ∧ 1 ≤ d ∧ d ≤ 32 by omega)
  clear ha hd
  go_enter Try.func9, Try.ntmps9
  go_wp2_with fail
  refine (awake14 _).mono ?_
  rintro e w1 ⟨rfl, hb⟩
  have HB1 := Lib.hid hb
  clear hb
  obtain ⟨w2, hw_w2⟩ : ∃ w2, w2 = w1.alloc (.cells #[.int .i64 1, .int .i64 40, .int .i64 40, .int .i64 a, .int .i64 b, .int .i64 0] 50) := ⟨_, rfl⟩
  obtain ⟨g2, hg_g2⟩ : ∃ g2, g2 = w1.heap.size := ⟨_, rfl⟩
  have hb_w2 : Below w1.heap.size w1 w2 := by rw [hw_w2]; exact balloc _ _
  have hk_g2 : w2.heap[g2]? = some (.cells #[.int .i64 1, .int .i64 40, .int .i64 40, .int .i64 a, .int .i64 b, .int .i64 0] 50 (0, 0)) := by rw [hw_w2, hg_g2]; exact blk_new _ _
  have hs_w2 : w2.heap.size = w1.heap.size + 1 := by rw [hw_w2]; simp
  subst hg_g2
  have HB2 := Lib.hid (bthen HB1.out hb_w2)
  have HP := Lib.hid (show PartIs w2 (.slice (some ⟨w1.heap.size, 0, none⟩) 1 1) (.slice none 0 0) (lone 1 (kT a b)) from ⟨slice1 (by decide) ⟨BlockIs.of hk_g2 0 _ rfl, BlockIs.of hk_g2 1 _ rfl, BlockIs.of hk_g2 2 _ rfl, BlockIs.of hk_g2 3 _ rfl, BlockIs.of hk_g2 4 _ rfl, BlockIs.of hk_g2 5 _ rfl⟩, slice0 _ _ _ _⟩)
  clear hb_w2 hk_g2 hs_w2 HB1
  go_wp2_with fail
  rw [← hw_w2]
  clear hw_w2
  refine (new_is 2 (lone 1 (kT a b)) _ _ _ HP.out (lone_ok (by decide) (by decide) (by decide) (kT_may (by have := HAB.out; omega) (by have := HAB.out; omega) (by have := HAB.out; omega)) (by intro h; first | rfl | exact absurd h (by decide)))).mono ?_
  rintro e w3 ⟨b0, rfl, hl, hb⟩
  have HL3 := Lib.hid (show LocIs w3 b0 w2.heap.size (loneS 2 1 (kT a b) ⟨-1, []⟩ 0 []) 0 from hl)
  have HB3 := Lib.hid (bthen HB2.out hb)
  obtain ⟨lo, hlo⟩ : ∃ lo, lo = w2.heap.size := ⟨_, rfl⟩
  have HLO := Lib.hid (show w.heap.size ≤ lo by rw [hlo]; exact HB2.out.size)
  rw [← hlo] at HL3
  clear hl hb hlo HP HB2
  have HKB := Lib.hid (kill_begin (l := 1) (a := a) (b := b) (d := d) (by have := HAB.out; omega) (by have := HAB.out; omega) (by have := HAB.out; omega) (by have := HAB.out; omega) (by have := HAB.out; omega))
  go_wp2_with (first | (go_at_call 12; refine (num_any _ _).mono ?_; rintro e w' ⟨rfl, hw⟩; subst w') | fail)
  refine (pick_is b0 lo _ 0 0 d 7 _ HL3.out).mono ?_
  rw [HKB.out.1]
  rintro e w4 ⟨ra4, rn4, rc4, rfl, hl, hr, hk⟩
  rw [HKB.out.2.2.1] at hr
  rw [HKB.out.2.1] at hl
  obtain rfl : rn4 = 0 := by obtain ⟨_, _, q⟩ := own_shape hr; injection q
  have HL4 := Lib.hid hl
  have HB4 := Lib.hid (HB3.out.trans (hk.below.mono HLO.out))
  clear HB3
  clear hl hr hk HL3
  go_wp2_with (first | (go_at_call 12; refine (num_any _ _).mono ?_; rintro e w' ⟨rfl, hw⟩; subst w') | fail)
  refine (begin_is b0 lo _ 0 7 _ HL4.out (by decide) (by decide)).mono ?_
  rintro e w5 ⟨ra5, rn5, rc5, rfl, hl, hr, hk⟩
  rw [HKB.out.2.2.2.2] at hr
  rw [HKB.out.2.2.2.1] at hl
  obtain rfl : rn5 = 1 := by obtain ⟨_, _, q⟩ := own_shape hr; injection q
  have HL5 := Lib.hid hl
  have HB5 := Lib.hid (HB4.out.trans (hk.below.mono HLO.out))
  clear HB4
  have R_5 := Lib.hid hr
  clear hl hr hk HL4
  obtain ⟨w6, hw_w6⟩ : ∃ w6, w6 = w5.alloc (.cells #[.int .i64 1, .int .i64 2, .int .i64 0, .int .i64 d] 39) := ⟨_, rfl⟩
  obtain ⟨g6, hg_g6⟩ : ∃ g6, g6 = w5.heap.size := ⟨_, rfl⟩
  have hb_w6 : Below w5.heap.size w5 w6 := by rw [hw_w6]; exact balloc _ _
  have hk_g6 : w6.heap[g6]? = some (.cells #[.int .i64 1, .int .i64 2, .int .i64 0, .int .i64 d] 39 (0, 0)) := by rw [hw_w6, hg_g6]; exact blk_new _ _
  have hs_w6 : w6.heap.size = w5.heap.size + 1 := by rw [hw_w6]; simp
  subst hg_g6
  have hb := hb_w6
  have HL6 := Lib.hid (HL5.out.keep hb)
  have KE := Lib.hid hk_g6
  have HB6 := Lib.hid (bthen HB5.out hb)
  have R_6 := Lib.hid (Below.kept R_5.out hb)
  clear HB5 R_5
  clear hb hb_w6 hk_g6 hs_w6 HL5
  go_wp2_with (first | (go_at_call 12; refine (num_any _ _).mono ?_; rintro e w' ⟨rfl, hw⟩; subst w') | fail)
  rw [← hw_w6]
  clear hw_w6
  refine (sameEvents_any _ _ [⟨1, 2, 0, d⟩] _ (EvRow.events R_6.out (by simp)) (slice1 (by decide) ⟨BlockIs.of KE.out 0 _ rfl, BlockIs.of KE.out 1 _ rfl, BlockIs.of KE.out 2 _ rfl, BlockIs.of KE.out 3 _ rfl⟩)).mono ?_
  rintro e w7 ⟨rfl, hb⟩
  replace KE := Lib.hid (keep_at KE.out hb)
  have HL7 := Lib.hid (HL6.out.keep hb)
  have HB7 := Lib.hid (bthen HB6.out hb)
  have R_7 := Lib.hid (Below.kept R_6.out hb)
  clear HB6 R_6
  clear hb HL6
  go_wp2_with fail
  have HLZ := Lib.hid (show LocIs w7 b0 lo (kS 1 a b d (((1 : Nat) : Int) - 1)) 6 from HL7.out)
  have HBZ := HB7
  clear HL7 HB7 R_7 KE
  go_loopw [19] (fun i wr => ∃ k : Nat, 1 ≤ k ∧ k ≤ d ∧ k ≤ b ∧ i = .int .i64 k ∧ Hid (LocIs wr b0 lo (kS 1 a b d ((k : Int) - 1)) 6) ∧ Hid (Below w.heap.size w wr)) (fun i _ => 33 - (intOf i).toNat)
  case atStart => exact ⟨1, by omega, by have := HAB.out; omega, by have := HAB.out; omega, rfl, HLZ, HBZ⟩
  case round =>
    obtain ⟨k, hk1, hkd, hkb, rfl, HL0, HB0⟩ := hrel
    have hk32 : (k : Int) ≤ 32 := by have := HAB.out; omega
    have hd32 := HAB.out.2.2.2.2
    by_cases h1 : k = d
    · have FD := Lib.hid (show ((k : Int) == (d : Int)) = true by simp [h1])
      obtain ⟨fa, hfa⟩ : ∃ fa, ((k : Int) == (a : Int)) = fa := ⟨_, rfl⟩
      have FA := Lib.hid hfa
      obtain ⟨fb, hfb⟩ : ∃ fb, ((k : Int) == (b : Int)) = fb := ⟨_, rfl⟩
      have FB := Lib.hid hfb
      have c1 : ((k : Int) == (d : Int)) = true := FD.out
      have c2 : ¬ (k : Int) < (d : Int) := by omega
      clear h1
      cases fa <;> cases fb
      all_goals
        have HR := Lib.hid (kill_run 1 a b d (k : Int) (.inr rfl))
        have HRV := Lib.hid (show runV (kS 1 a b d ((k : Int) - 1)) = ⟨false, true, false⟩ by rw [HR.out.1]; simp only [FA.out, FD.out, FB.out]; rfl)
        have HRL := Lib.hid (show runEv (kS 1 a b d ((k : Int) - 1)) = [⟨5, 2, 0, k⟩] by rw [HR.out.2.2.1]; simp only [FA.out, FD.out, FB.out]; rfl)
        have HRS := Lib.hid (show runS (kS 1 a b d ((k : Int) - 1)) = kN 1 a b by rw [HR.out.2.2.2]; simp only [FD.out, FB.out]; rfl)
        go_wp2_with (first | (go_at_call 12; refine (num_any _ _).mono ?_; rintro e w' ⟨rfl, hw⟩; subst w') | fail)
        refine (run_is b0 lo (kS 1 a b d ((k : Int) - 1)) 6 _ HL0.out).mono ?_
        rw [HRV.out, HR.out.2.1]
        rintro e w1 ⟨ra1, rn1, rc1, rfl, hl, hr, hk⟩
        rw [HRL.out] at hr
        rw [HRS.out] at hl
        obtain rfl : rn1 = 1 := by obtain ⟨_, _, q⟩ := own_shape hr; injection q
        have HL1 := Lib.hid hl
        have HB1 := Lib.hid (HB0.out.trans (hk.below.mono HLO.out))
        clear HB0
        have R_1 := Lib.hid hr
        clear hl hr hk HL0
        obtain ⟨w2, hw_w2⟩ : ∃ w2, w2 = w1.alloc (.cells #[.bool false, .bool true, .bool false] 41) := ⟨_, rfl⟩
        obtain ⟨g2, hg_g2⟩ : ∃ g2, g2 = w1.heap.size := ⟨_, rfl⟩
        have hb_w2 : Below w1.heap.size w1 w2 := by rw [hw_w2]; exact balloc _ _
        have hk_g2 : w2.heap[g2]? = some (.cells #[.bool false, .bool true, .bool false] 41 (0, 0)) := by rw [hw_w2, hg_g2]; exact blk_new _ _
        have hs_w2 : w2.heap.size = w1.heap.size + 1 := by rw [hw_w2]; simp
        subst hg_g2
        have hb := hb_w2
        have HL2 := Lib.hid (HL1.out.keep hb)
        have KV := Lib.hid hk_g2
        have HB2 := Lib.hid (bthen HB1.out hb)
        have R_2 := Lib.hid (Below.kept R_1.out hb)
        clear hb hb_w2 hk_g2 hs_w2 HL1 HB1 R_1
        go_upto_region 21 with (fail)
        rw [← hw_w2]
        clear hw_w2
        obtain ⟨base, hbase⟩ : ∃ base, base = w2.heap.size := ⟨_, rfl⟩
        have HBASE := Lib.hid (show w.heap.size ≤ base by rw [hbase]; exact HB2.out.size)
        have HSZ := Lib.hid (show base ≤ w2.heap.size by rw [hbase]; exact Nat.le_refl _)
        have HQ := Lib.hid (show EvRow w2 base (.slice none 0 0) [] from World.ownsRow_nil _ _ _ _)
        have AP_R := Lib.hid (show Apart (.slice ra1 1 rc1) (.slice none 0 0) from fun g _ h => by cases h)
        clear hbase
        go_wp2_with (at_builtin; refine append_elem_at rfl (.tmp 116) (.tmp 119) 33 rfl base 39 _ 4 32 Try.underlying33 infoEvent rfl (by decide) (.slice none 0 0) 0 _ rfl HQ.out (evCells ⟨5, 2, 0, k⟩) w2.heap.size rfl rfl rfl rfl (by omega) (by omega) HSZ.out ?_)
        intro qv w3 hown hbel hg hat
        have HQA := Lib.hid (Below.kept HQ.out (balloc w2 (.cells (evCells ⟨5, 2, 0, k⟩).toArray 39)))
        have HL3 := Lib.hid ((HL2.out.keep (balloc _ _)).grown HQA.out hg)
        have HB3 := Lib.hid (HB2.out.trans (hbel.mono HBASE.out))
        have R_3 := Lib.hid (own_two (Below.kept R_2.out (balloc _ _)) AP_R.out hg)
        have AP_R := Lib.hid (apart_next (w := w2.alloc (.cells (evCells ⟨5, 2, 0, k⟩).toArray 39)) (Below.kept R_2.out (balloc _ _)) AP_R.out (hat.imp id (fun h => ⟨_, (by simp), h⟩)))
        replace KV := Lib.hid (typed_apart (keep_at KV.out (balloc _ _)) hg (fun g h => own_typed HQA.out h) (by decide))
        have HSZ := Lib.hid (Nat.le_trans HSZ.out hbel.size)
        obtain ⟨qa3, qc3, rfl⟩ := own_shape hown
        have HQ := Lib.hid (show EvRow w3 base (.slice qa3 1 qc3) [⟨5, 2, 0, k⟩] from hown)
        clear hown hbel hg hat HL2 HB2 R_2
        have v1 := BlockIs.of KV.out 1 _ rfl
        have v2 := BlockIs.of KV.out 2 _ rfl
        go_wp2_with (first | (go_at_call 12; refine (num_any _ _).mono ?_; rintro e w' ⟨rfl, hw⟩; subst w') | fail)
        refine (sameEvents_any _ _ [⟨5, 2, 0, k⟩] _ (EvRow.events R_3.out (by simp)) (EvRow.events HQ.out (by simp))).mono ?_
        rintro e w4 ⟨rfl, hb⟩
        have v1 := Ext.below hb _ _ v1
        have v2 := Ext.below hb _ _ v2
        replace KV := Lib.hid (keep_at KV.out hb)
        have HL4 := Lib.hid (HL3.out.keep hb)
        have HB4 := Lib.hid (bthen HB3.out hb)
        have R_4 := Lib.hid (Below.kept R_3.out hb)
        clear HB3 R_3
        clear hb HL3
        go_wp2_with fail
        have HN := Lib.hid (lone_none (i := 2) (l := 1) (t := kT a b) (s := ⟨7, []⟩) (q := 1))
        refine (run_is b0 lo (kN 1 a b) 6 _ HL4.out).mono ?_
        rintro e w5 ⟨ra5, rn5, rc5, rfl, hl, hr, hk⟩
        rw [show runV (kN 1 a b) = ⟨false, false, false⟩ from HN.out.1, show runE (kN 1 a b) = 1401 from HN.out.2.2.1]
        rw [show runEv (kN 1 a b) = [] from HN.out.2.2.2.1] at hr
        rw [show runS (kN 1 a b) = kN 1 a b from HN.out.2.1] at hl
        obtain rfl : rn5 = 0 := by obtain ⟨_, _, q⟩ := own_shape hr; injection q
        have HL5 := Lib.hid hl
        have HB5 := Lib.hid (HB4.out.trans (hk.below.mono HLO.out))
        have R_5 := Lib.hid (hk.rows _ _ _ _ R_4.out)
        clear HB4 R_4
        clear hl hr hk HL4
        obtain ⟨w6, hw_w6⟩ : ∃ w6, w6 = w5.alloc (.cells #[.bool false, .bool false, .bool false] 41) := ⟨_, rfl⟩
        obtain ⟨g6, hg_g6⟩ : ∃ g6, g6 = w5.heap.size := ⟨_, rfl⟩
        have hb_w6 : Below w5.heap.size w5 w6 := by rw [hw_w6]; exact balloc _ _
        have hk_g6 : w6.heap[g6]? = some (.cells #[.bool false, .bool false, .bool false] 41 (0, 0)) := by rw [hw_w6, hg_g6]; exact blk_new _ _
        have hs_w6 : w6.heap.size = w5.heap.size + 1 := by rw [hw_w6]; simp
        subst hg_g6
        have hb := hb_w6
        have HL6 := Lib.hid (HL5.out.keep hb)
        have HB6 := Lib.hid (bthen HB5.out hb)
        have R_6 := Lib.hid (Below.kept R_5.out hb)
        clear HB5 R_5
        clear hb hb_w6 hk_g6 hs_w6 HL5
        go_wp2_with (first | (go_at_call 12; refine (num_any _ _).mono ?_; rintro e w' ⟨rfl, hw⟩; subst w') | fail)
        rw [← hw_w6]
        clear hw_w6
        refine (fail_is b0 lo (kN 1 a b) 6 _ HL6.out).mono ?_
        rintro e w7 ⟨ra7, rn7, rc7, rfl, hl, hr, hk⟩
        rw [show runE (kN 1 a b) = 1401 from HN.out.2.2.1]
        rw [show failEv (kN 1 a b) = [] from HN.out.2.2.2.2.2] at hr
        rw [show failS (kN 1 a b) = kN 1 a b from HN.out.2.2.2.2.1] at hl
        obtain rfl : rn7 = 0 := by obtain ⟨_, _, q⟩ := own_shape hr; injection q
        have HL7 := Lib.hid hl
        have HB7 := Lib.hid (HB6.out.trans (hk.below.mono HLO.out))
        have R_7 := Lib.hid (hk.rows _ _ _ _ R_6.out)
        clear HB6 R_6
        clear hl hr hk HL6
        go_wp2_with (first | (go_at_call 12; refine (num_any _ _).mono ?_; rintro e w' ⟨rfl, hw⟩; subst w') | fail)
        refine (ready_is b0 lo (kN 1 a b) 6 _ HL7.out).mono ?_
        rintro e w' ⟨rfl, hw⟩
        subst w'
        rw [show decide (0 < (kN 1 a b).js.length) = false from rfl]
        go_wp2_with (first | (go_at_call 12; refine (num_any _ _).mono ?_; rintro e w' ⟨rfl, hw⟩; subst w') | fail)
        refine (jobs_is b0 lo (kN 1 a b) 6 _ HL7.out).mono ?_
        rintro e w8 ⟨jv, rfl, hj, hb⟩
        rw [show (kN 1 a b).js = [] from rfl] at hj
        obtain ⟨ja, jc, rfl⟩ := own_shape hj
        clear hj
        have HL8 := Lib.hid (HL7.out.keep hb)
        have HB8 := Lib.hid (bthen HB7.out hb)
        have R_8 := Lib.hid (Below.kept R_7.out hb)
        clear HB7 R_7
        clear hb HL7
        go_wp2_with fail
        go_ret
        exact ⟨rfl, HB8.out⟩
    · have FD := Lib.hid (show ((k : Int) == (d : Int)) = false by simp; omega)
      have c1 : ((k : Int) == (d : Int)) = false := FD.out
      have c2 : (k : Int) < (d : Int) := by omega
      by_cases h2 : k = b
      · have FB := Lib.hid (show ((k : Int) == (b : Int)) = true by simp [h2])
        have c3 : ((k : Int) == (b : Int)) = true := FB.out
        clear h2
        by_cases h3 : k = a
        · have FA := Lib.hid (show ((k : Int) == (a : Int)) = true by simp [h3])
          have c4 : ((k : Int) == (a : Int)) = true := FA.out
          clear h3
          have HR := Lib.hid (kill_run 1 a b d (k : Int) (.inr rfl))
          have HRV := Lib.hid (show runV (kS 1 a b d ((k : Int) - 1)) = ⟨true, false, true⟩ by rw [HR.out.1]; simp only [FA.out, FD.out, FB.out]; rfl)
          have HRL := Lib.hid (show runEv (kS 1 a b d ((k : Int) - 1)) = [⟨4, 2, 0, k⟩, ⟨6, 2, 0, k⟩] by rw [HR.out.2.2.1]; simp only [FA.out, FD.out, FB.out]; rfl)
          have HRS := Lib.hid (show runS (kS 1 a b d ((k : Int) - 1)) = kN 1 a b by rw [HR.out.2.2.2]; simp only [FD.out, FB.out]; rfl)
          go_wp2_with (first | (go_at_call 12; refine (num_any _ _).mono ?_; rintro e w' ⟨rfl, hw⟩; subst w') | fail)
          refine (run_is b0 lo (kS 1 a b d ((k : Int) - 1)) 6 _ HL0.out).mono ?_
          rw [HRV.out, HR.out.2.1]
          rintro e w1 ⟨ra1, rn1, rc1, rfl, hl, hr, hk⟩
          rw [HRL.out] at hr
          rw [HRS.out] at hl
          obtain rfl : rn1 = 2 := by obtain ⟨_, _, q⟩ := own_shape hr; injection q
          have HL1 := Lib.hid hl
          have HB1 := Lib.hid (HB0.out.trans (hk.below.mono HLO.out))
          clear HB0
          have R_1 := Lib.hid hr
          clear hl hr hk HL0
          obtain ⟨w2, hw_w2⟩ : ∃ w2, w2 = w1.alloc (.cells #[.bool true, .bool false, .bool true] 41) := ⟨_, rfl⟩
          obtain ⟨g2, hg_g2⟩ : ∃ g2, g2 = w1.heap.size := ⟨_, rfl⟩
          have hb_w2 : Below w1.heap.size w1 w2 := by rw [hw_w2]; exact balloc _ _
          have hk_g2 : w2.heap[g2]? = some (.cells #[.bool true, .bool false, .bool true] 41 (0, 0)) := by rw [hw_w2, hg_g2]; exact blk_new _ _
          have hs_w2 : w2.heap.size = w1.heap.size + 1 := by rw [hw_w2]; simp
          subst hg_g2
          have hb := hb_w2
          have HL2 := Lib.hid (HL1.out.keep hb)
          have KV := Lib.hid hk_g2
          have HB2 := Lib.hid (bthen HB1.out hb)
          have R_2 := Lib.hid (Below.kept R_1.out hb)
          clear hb hb_w2 hk_g2 hs_w2 HL1 HB1 R_1
          go_upto_region 21 with (fail)
          rw [← hw_w2]
          clear hw_w2
          obtain ⟨base, hbase⟩ : ∃ base, base = w2.heap.size := ⟨_, rfl⟩
          have HBASE := Lib.hid (show w.heap.size ≤ base by rw [hbase]; exact HB2.out.size)
          have HSZ := Lib.hid (show base ≤ w2.heap.size by rw [hbase]; exact Nat.le_refl _)
          have HQ := Lib.hid (show EvRow w2 base (.slice none 0 0) [] from World.ownsRow_nil _ _ _ _)
          have AP_R := Lib.hid (show Apart (.slice ra1 2 rc1) (.slice none 0 0) from fun g _ h => by cases h)
          clear hbase
          go_wp2_with (at_builtin; refine append_elem_at rfl (.tmp 108) (.tmp 111) 33 rfl base 39 _ 4 32 Try.underlying33 infoEvent rfl (by decide) (.slice none 0 0) 0 _ rfl HQ.out (evCells ⟨4, 2, 0, k⟩) w2.heap.size rfl rfl rfl rfl (by omega) (by omega) HSZ.out ?_)
          intro qv w3 hown hbel hg hat
          have HQA := Lib.hid (Below.kept HQ.out (balloc w2 (.cells (evCells ⟨4, 2, 0, k⟩).toArray 39)))
          have HL3 := Lib.hid ((HL2.out.keep (balloc _ _)).grown HQA.out hg)
          have HB3 := Lib.hid (HB2.out.trans (hbel.mono HBASE.out))
          have R_3 := Lib.hid (own_two (Below.kept R_2.out (balloc _ _)) AP_R.out hg)
          have AP_R := Lib.hid (apart_next (w := w2.alloc (.cells (evCells ⟨4, 2, 0, k⟩).toArray 39)) (Below.kept R_2.out (balloc _ _)) AP_R.out (hat.imp id (fun h => ⟨_, (by simp), h⟩)))
          replace KV := Lib.hid (typed_apart (keep_at KV.out (balloc _ _)) hg (fun g h => own_typed HQA.out h) (by decide))
          have HSZ := Lib.hid (Nat.le_trans HSZ.out hbel.size)
          obtain ⟨qa3, qc3, rfl⟩ := own_shape hown
          have HQ := Lib.hid (show EvRow w3 base (.slice qa3 1 qc3) [⟨4, 2, 0, k⟩] from hown)
          clear hown hbel hg hat HL2 HB2 R_2
          go_wp2_with (at_builtin; refine append_elem_at rfl (.tmp 124) (.tmp 127) 33 rfl base 39 _ 4 32 Try.underlying33 infoEvent rfl (by decide) (.slice qa3 1 qc3) 1 _ rfl HQ.out (evCells ⟨6, 2, 0, k⟩) w3.heap.size rfl rfl rfl rfl (by omega) (by omega) HSZ.out ?_)
          intro qv w4 hown hbel hg hat
          have HQA := Lib.hid (Below.kept HQ.out (balloc w3 (.cells (evCells ⟨6, 2, 0, k⟩).toArray 39)))
          have HL4 := Lib.hid ((HL3.out.keep (balloc _ _)).grown HQA.out hg)
          have HB4 := Lib.hid (HB3.out.trans (hbel.mono HBASE.out))
          have R_4 := Lib.hid (own_two (Below.kept R_3.out (balloc _ _)) AP_R.out hg)
          have AP_R := Lib.hid (apart_next (w := w3.alloc (.cells (evCells ⟨6, 2, 0, k⟩).toArray 39)) (Below.kept R_3.out (balloc _ _)) AP_R.out (hat.imp id (fun h => ⟨_, (by simp), h⟩)))
          replace KV := Lib.hid (typed_apart (keep_at KV.out (balloc _ _)) hg (fun g h => own_typed HQA.out h) (by decide))
          have HSZ := Lib.hid (Nat.le_trans HSZ.out hbel.size)
          obtain ⟨qa4, qc4, rfl⟩ := own_shape hown
          have HQ := Lib.hid (show EvRow w4 base (.slice qa4 2 qc4) [⟨4, 2, 0, k⟩, ⟨6, 2, 0, k⟩] from hown)
          clear hown hbel hg hat HL3 HB3 R_3
          have v1 := BlockIs.of KV.out 1 _ rfl
          have v2 := BlockIs.of KV.out 2 _ rfl
          go_wp2_with (first | (go_at_call 12; refine (num_any _ _).mono ?_; rintro e w' ⟨rfl, hw⟩; subst w') | fail)
          refine (sameEvents_any _ _ [⟨4, 2, 0, k⟩, ⟨6, 2, 0, k⟩] _ (EvRow.events R_4.out (by simp)) (EvRow.events HQ.out (by simp))).mono ?_
          rintro e w5 ⟨rfl, hb⟩
          have v1 := Ext.below hb _ _ v1
          have v2 := Ext.below hb _ _ v2
          replace KV := Lib.hid (keep_at KV.out hb)
          have HL5 := Lib.hid (HL4.out.keep hb)
          have HB5 := Lib.hid (bthen HB4.out hb)
          have R_5 := Lib.hid (Below.kept R_4.out hb)
          clear HB4 R_4
          clear hb HL4
          go_wp2_with fail
          have HN := Lib.hid (lone_none (i := 2) (l := 1) (t := kT a b) (s := ⟨7, []⟩) (q := 1))
          refine (run_is b0 lo (kN 1 a b) 6 _ HL5.out).mono ?_
          rintro e w6 ⟨ra6, rn6, rc6, rfl, hl, hr, hk⟩
          rw [show runV (kN 1 a b) = ⟨false, false, false⟩ from HN.out.1, show runE (kN 1 a b) = 1401 from HN.out.2.2.1]
          rw [show runEv (kN 1 a b) = [] from HN.out.2.2.2.1] at hr
          rw [show runS (kN 1 a b) = kN 1 a b from HN.out.2.1] at hl
          obtain rfl : rn6 = 0 := by obtain ⟨_, _, q⟩ := own_shape hr; injection q
          have HL6 := Lib.hid hl
          have HB6 := Lib.hid (HB5.out.trans (hk.below.mono HLO.out))
          have R_6 := Lib.hid (hk.rows _ _ _ _ R_5.out)
          clear HB5 R_5
          clear hl hr hk HL5
          obtain ⟨w7, hw_w7⟩ : ∃ w7, w7 = w6.alloc (.cells #[.bool false, .bool false, .bool false] 41) := ⟨_, rfl⟩
          obtain ⟨g7, hg_g7⟩ : ∃ g7, g7 = w6.heap.size := ⟨_, rfl⟩
          have hb_w7 : Below w6.heap.size w6 w7 := by rw [hw_w7]; exact balloc _ _
          have hk_g7 : w7.heap[g7]? = some (.cells #[.bool false, .bool false, .bool false] 41 (0, 0)) := by rw [hw_w7, hg_g7]; exact blk_new _ _
          have hs_w7 : w7.heap.size = w6.heap.size + 1 := by rw [hw_w7]; simp
          subst hg_g7
          have hb := hb_w7
          have HL7 := Lib.hid (HL6.out.keep hb)
          have HB7 := Lib.hid (bthen HB6.out hb)
          have R_7 := Lib.hid (Below.kept R_6.out hb)
          clear HB6 R_6
          clear hb hb_w7 hk_g7 hs_w7 HL6
          go_wp2_with (first | (go_at_call 12; refine (num_any _ _).mono ?_; rintro e w' ⟨rfl, hw⟩; subst w') | fail)
          rw [← hw_w7]
          clear hw_w7
          refine (fail_is b0 lo (kN 1 a b) 6 _ HL7.out).mono ?_
          rintro e w8 ⟨ra8, rn8, rc8, rfl, hl, hr, hk⟩
          rw [show runE (kN 1 a b) = 1401 from HN.out.2.2.1]
          rw [show failEv (kN 1 a b) = [] from HN.out.2.2.2.2.2] at hr
          rw [show failS (kN 1 a b) = kN 1 a b from HN.out.2.2.2.2.1] at hl
          obtain rfl : rn8 = 0 := by obtain ⟨_, _, q⟩ := own_shape hr; injection q
          have HL8 := Lib.hid hl
          have HB8 := Lib.hid (HB7.out.trans (hk.below.mono HLO.out))
          have R_8 := Lib.hid (hk.rows _ _ _ _ R_7.out)
          clear HB7 R_7
          clear hl hr hk HL7
          go_wp2_with (first | (go_at_call 12; refine (num_any _ _).mono ?_; rintro e w' ⟨rfl, hw⟩; subst w') | fail)
          refine (ready_is b0 lo (kN 1 a b) 6 _ HL8.out).mono ?_
          rintro e w' ⟨rfl, hw⟩
          subst w'
          rw [show decide (0 < (kN 1 a b).js.length) = false from rfl]
          go_wp2_with (first | (go_at_call 12; refine (num_any _ _).mono ?_; rintro e w' ⟨rfl, hw⟩; subst w') | fail)
          refine (jobs_is b0 lo (kN 1 a b) 6 _ HL8.out).mono ?_
          rintro e w9 ⟨jv, rfl, hj, hb⟩
          rw [show (kN 1 a b).js = [] from rfl] at hj
          obtain ⟨ja, jc, rfl⟩ := own_shape hj
          clear hj
          have HL9 := Lib.hid (HL8.out.keep hb)
          have HB9 := Lib.hid (bthen HB8.out hb)
          have R_9 := Lib.hid (Below.kept R_8.out hb)
          clear HB8 R_8
          clear hb HL8
          go_wp2_with fail
          go_ret
          exact ⟨rfl, HB9.out⟩
        · have FA := Lib.hid (show ((k : Int) == (a : Int)) = false by simp; omega)
          have c4 : ((k : Int) == (a : Int)) = false := FA.out
          have HR := Lib.hid (kill_run 1 a b d (k : Int) (.inr rfl))
          have HRV := Lib.hid (show runV (kS 1 a b d ((k : Int) - 1)) = ⟨false, false, true⟩ by rw [HR.out.1]; simp only [FA.out, FD.out, FB.out]; rfl)
          have HRL := Lib.hid (show runEv (kS 1 a b d ((k : Int) - 1)) = [⟨6, 2, 0, k⟩] by rw [HR.out.2.2.1]; simp only [FA.out, FD.out, FB.out]; rfl)
          have HRS := Lib.hid (show runS (kS 1 a b d ((k : Int) - 1)) = kN 1 a b by rw [HR.out.2.2.2]; simp only [FD.out, FB.out]; rfl)
          go_wp2_with (first | (go_at_call 12; refine (num_any _ _).mono ?_; rintro e w' ⟨rfl, hw⟩; subst w') | fail)
          refine (run_is b0 lo (kS 1 a b d ((k : Int) - 1)) 6 _ HL0.out).mono ?_
          rw [HRV.out, HR.out.2.1]
          rintro e w1 ⟨ra1, rn1, rc1, rfl, hl, hr, hk⟩
          rw [HRL.out] at hr
          rw [HRS.out] at hl
          obtain rfl : rn1 = 1 := by obtain ⟨_, _, q⟩ := own_shape hr; injection q
          have HL1 := Lib.hid hl
          have HB1 := Lib.hid (HB0.out.trans (hk.below.mono HLO.out))
          clear HB0
          have R_1 := Lib.hid hr
          clear hl hr hk HL0
          obtain ⟨w2, hw_w2⟩ : ∃ w2, w2 = w1.alloc (.cells #[.bool false, .bool false, .bool true] 41) := ⟨_, rfl⟩
          obtain ⟨g2, hg_g2⟩ : ∃ g2, g2 = w1.heap.size := ⟨_, rfl⟩
          have hb_w2 : Below w1.heap.size w1 w2 := by rw [hw_w2]; exact balloc _ _
          have hk_g2 : w2.heap[g2]? = some (.cells #[.bool false, .bool false, .bool true] 41 (0, 0)) := by rw [hw_w2, hg_g2]; exact blk_new _ _
          have hs_w2 : w2.heap.size = w1.heap.size + 1 := by rw [hw_w2]; simp
          subst hg_g2
          have hb := hb_w2
          have HL2 := Lib.hid (HL1.out.keep hb)
          have KV := Lib.hid hk_g2
          have HB2 := Lib.hid (bthen HB1.out hb)
          have R_2 := Lib.hid (Below.kept R_1.out hb)
          clear hb hb_w2 hk_g2 hs_w2 HL1 HB1 R_1
          go_upto_region 21 with (fail)
          rw [← hw_w2]
          clear hw_w2
          obtain ⟨base, hbase⟩ : ∃ base, base = w2.heap.size := ⟨_, rfl⟩
          have HBASE := Lib.hid (show w.heap.size ≤ base by rw [hbase]; exact HB2.out.size)
          have HSZ := Lib.hid (show base ≤ w2.heap.size by rw [hbase]; exact Nat.le_refl _)
          have HQ := Lib.hid (show EvRow w2 base (.slice none 0 0) [] from World.ownsRow_nil _ _ _ _)
          have AP_R := Lib.hid (show Apart (.slice ra1 1 rc1) (.slice none 0 0) from fun g _ h => by cases h)
          clear hbase
          go_wp2_with (at_builtin; refine append_elem_at rfl (.tmp 124) (.tmp 127) 33 rfl base 39 _ 4 32 Try.underlying33 infoEvent rfl (by decide) (.slice none 0 0) 0 _ rfl HQ.out (evCells ⟨6, 2, 0, k⟩) w2.heap.size rfl rfl rfl rfl (by omega) (by omega) HSZ.out ?_)
          intro qv w3 hown hbel hg hat
          have HQA := Lib.hid (Below.kept HQ.out (balloc w2 (.cells (evCells ⟨6, 2, 0, k⟩).toArray 39)))
          have HL3 := Lib.hid ((HL2.out.keep (balloc _ _)).grown HQA.out hg)
          have HB3 := Lib.hid (HB2.out.trans (hbel.mono HBASE.out))
          have R_3 := Lib.hid (own_two (Below.kept R_2.out (balloc _ _)) AP_R.out hg)
          have AP_R := Lib.hid (apart_next (w := w2.alloc (.cells (evCells ⟨6, 2, 0, k⟩).toArray 39)) (Below.kept R_2.out (balloc _ _)) AP_R.out (hat.imp id (fun h => ⟨_, (by simp), h⟩)))
          replace KV := Lib.hid (typed_apart (keep_at KV.out (balloc _ _)) hg (fun g h => own_typed HQA.out h) (by decide))
          have HSZ := Lib.hid (Nat.le_trans HSZ.out hbel.size)
          obtain ⟨qa3, qc3, rfl⟩ := own_shape hown
          have HQ := Lib.hid (show EvRow w3 base (.slice qa3 1 qc3) [⟨6, 2, 0, k⟩] from hown)
          clear hown hbel hg hat HL2 HB2 R_2
          have v1 := BlockIs.of KV.out 1 _ rfl
          have v2 := BlockIs.of KV.out 2 _ rfl
          go_wp2_with (first | (go_at_call 12; refine (num_any _ _).mono ?_; rintro e w' ⟨rfl, hw⟩; subst w') | fail)
          refine (sameEvents_any _ _ [⟨6, 2, 0, k⟩] _ (EvRow.events R_3.out (by simp)) (EvRow.events HQ.out (by simp))).mono ?_
          rintro e w4 ⟨rfl, hb⟩
          have v1 := Ext.below hb _ _ v1
          have v2 := Ext.below hb _ _ v2
          replace KV := Lib.hid (keep_at KV.out hb)
          have HL4 := Lib.hid (HL3.out.keep hb)
          have HB4 := Lib.hid (bthen HB3.out hb)
          have R_4 := Lib.hid (Below.kept R_3.out hb)
          clear HB3 R_3
          clear hb HL3
          go_wp2_with fail
          have HN := Lib.hid (lone_none (i := 2) (l := 1) (t := kT a b) (s := ⟨7, []⟩) (q := 1))
          refine (run_is b0 lo (kN 1 a b) 6 _ HL4.out).mono ?_
          rintro e w5 ⟨ra5, rn5, rc5, rfl, hl, hr, hk⟩
          rw [show runV (kN 1 a b) = ⟨false, false, false⟩ from HN.out.1, show runE (kN 1 a b) = 1401 from HN.out.2.2.1]
          rw [show runEv (kN 1 a b) = [] from HN.out.2.2.2.1] at hr
          rw [show runS (kN 1 a b) = kN 1 a b from HN.out.2.1] at hl
          obtain rfl : rn5 = 0 := by obtain ⟨_, _, q⟩ := own_shape hr; injection q
          have HL5 := Lib.hid hl
          have HB5 := Lib.hid (HB4.out.trans (hk.below.mono HLO.out))
          have R_5 := Lib.hid (hk.rows _ _ _ _ R_4.out)
          clear HB4 R_4
          clear hl hr hk HL4
          obtain ⟨w6, hw_w6⟩ : ∃ w6, w6 = w5.alloc (.cells #[.bool false, .bool false, .bool false] 41) := ⟨_, rfl⟩
          obtain ⟨g6, hg_g6⟩ : ∃ g6, g6 = w5.heap.size := ⟨_, rfl⟩
          have hb_w6 : Below w5.heap.size w5 w6 := by rw [hw_w6]; exact balloc _ _
          have hk_g6 : w6.heap[g6]? = some (.cells #[.bool false, .bool false, .bool false] 41 (0, 0)) := by rw [hw_w6, hg_g6]; exact blk_new _ _
          have hs_w6 : w6.heap.size = w5.heap.size + 1 := by rw [hw_w6]; simp
          subst hg_g6
          have hb := hb_w6
          have HL6 := Lib.hid (HL5.out.keep hb)
          have HB6 := Lib.hid (bthen HB5.out hb)
          have R_6 := Lib.hid (Below.kept R_5.out hb)
          clear HB5 R_5
          clear hb hb_w6 hk_g6 hs_w6 HL5
          go_wp2_with (first | (go_at_call 12; refine (num_any _ _).mono ?_; rintro e w' ⟨rfl, hw⟩; subst w') | fail)
          rw [← hw_w6]
          clear hw_w6
          refine (fail_is b0 lo (kN 1 a b) 6 _ HL6.out).mono ?_
          rintro e w7 ⟨ra7, rn7, rc7, rfl, hl, hr, hk⟩
          rw [show runE (kN 1 a b) = 1401 from HN.out.2.2.1]
          rw [show failEv (kN 1 a b) = [] from HN.out.2.2.2.2.2] at hr
          rw [show failS (kN 1 a b) = kN 1 a b from HN.out.2.2.2.2.1] at hl
          obtain rfl : rn7 = 0 := by obtain ⟨_, _, q⟩ := own_shape hr; injection q
          have HL7 := Lib.hid hl
          have HB7 := Lib.hid (HB6.out.trans (hk.below.mono HLO.out))
          have R_7 := Lib.hid (hk.rows _ _ _ _ R_6.out)
          clear HB6 R_6
          clear hl hr hk HL6
          go_wp2_with (first | (go_at_call 12; refine (num_any _ _).mono ?_; rintro e w' ⟨rfl, hw⟩; subst w') | fail)
          refine (ready_is b0 lo (kN 1 a b) 6 _ HL7.out).mono ?_
          rintro e w' ⟨rfl, hw⟩
          subst w'
          rw [show decide (0 < (kN 1 a b).js.length) = false from rfl]
          go_wp2_with (first | (go_at_call 12; refine (num_any _ _).mono ?_; rintro e w' ⟨rfl, hw⟩; subst w') | fail)
          refine (jobs_is b0 lo (kN 1 a b) 6 _ HL7.out).mono ?_
          rintro e w8 ⟨jv, rfl, hj, hb⟩
          rw [show (kN 1 a b).js = [] from rfl] at hj
          obtain ⟨ja, jc, rfl⟩ := own_shape hj
          clear hj
          have HL8 := Lib.hid (HL7.out.keep hb)
          have HB8 := Lib.hid (bthen HB7.out hb)
          have R_8 := Lib.hid (Below.kept R_7.out hb)
          clear HB7 R_7
          clear hb HL7
          go_wp2_with fail
          go_ret
          exact ⟨rfl, HB8.out⟩
      · have FB := Lib.hid (show ((k : Int) == (b : Int)) = false by simp; omega)
        have c3 : ((k : Int) == (b : Int)) = false := FB.out
        by_cases h3 : k = a
        · have FA := Lib.hid (show ((k : Int) == (a : Int)) = true by simp [h3])
          have c4 : ((k : Int) == (a : Int)) = true := FA.out
          clear h3
          have HR := Lib.hid (kill_run 1 a b d (k : Int) (.inr rfl))
          have HRV := Lib.hid (show runV (kS 1 a b d ((k : Int) - 1)) = ⟨true, false, false⟩ by rw [HR.out.1]; simp only [FA.out, FD.out, FB.out]; rfl)
          have HRL := Lib.hid (show runEv (kS 1 a b d ((k : Int) - 1)) = [⟨4, 2, 0, k⟩] by rw [HR.out.2.2.1]; simp only [FA.out, FD.out, FB.out]; rfl)
          have HRS := Lib.hid (show runS (kS 1 a b d ((k : Int) - 1)) = kS 1 a b d (k : Int) by rw [HR.out.2.2.2]; simp only [FD.out, FB.out]; rfl)
          go_wp2_with (first | (go_at_call 12; refine (num_any _ _).mono ?_; rintro e w' ⟨rfl, hw⟩; subst w') | fail)
          refine (run_is b0 lo (kS 1 a b d ((k : Int) - 1)) 6 _ HL0.out).mono ?_
          rw [HRV.out, HR.out.2.1]
          rintro e w1 ⟨ra1, rn1, rc1, rfl, hl, hr, hk⟩
          rw [HRL.out] at hr
          rw [HRS.out] at hl
          obtain rfl : rn1 = 1 := by obtain ⟨_, _, q⟩ := own_shape hr; injection q
          have HL1 := Lib.hid hl
          have HB1 := Lib.hid (HB0.out.trans (hk.below.mono HLO.out))
          clear HB0
          have R_1 := Lib.hid hr
          clear hl hr hk HL0
          obtain ⟨w2, hw_w2⟩ : ∃ w2, w2 = w1.alloc (.cells #[.bool true, .bool false, .bool false] 41) := ⟨_, rfl⟩
          obtain ⟨g2, hg_g2⟩ : ∃ g2, g2 = w1.heap.size := ⟨_, rfl⟩
          have hb_w2 : Below w1.heap.size w1 w2 := by rw [hw_w2]; exact balloc _ _
          have hk_g2 : w2.heap[g2]? = some (.cells #[.bool true, .bool false, .bool false] 41 (0, 0)) := by rw [hw_w2, hg_g2]; exact blk_new _ _
          have hs_w2 : w2.heap.size = w1.heap.size + 1 := by rw [hw_w2]; simp
          subst hg_g2
          have hb := hb_w2
          have HL2 := Lib.hid (HL1.out.keep hb)
          have KV := Lib.hid hk_g2
          have HB2 := Lib.hid (bthen HB1.out hb)
          have R_2 := Lib.hid (Below.kept R_1.out hb)
          clear hb hb_w2 hk_g2 hs_w2 HL1 HB1 R_1
          go_upto_region 21 with (fail)
          rw [← hw_w2]
          clear hw_w2
          obtain ⟨base, hbase⟩ : ∃ base, base = w2.heap.size := ⟨_, rfl⟩
          have HBASE := Lib.hid (show w.heap.size ≤ base by rw [hbase]; exact HB2.out.size)
          have HSZ := Lib.hid (show base ≤ w2.heap.size by rw [hbase]; exact Nat.le_refl _)
          have HQ := Lib.hid (show EvRow w2 base (.slice none 0 0) [] from World.ownsRow_nil _ _ _ _)
          have AP_R := Lib.hid (show Apart (.slice ra1 1 rc1) (.slice none 0 0) from fun g _ h => by cases h)
          clear hbase
          go_wp2_with (at_builtin; refine append_elem_at rfl (.tmp 108) (.tmp 111) 33 rfl base 39 _ 4 32 Try.underlying33 infoEvent rfl (by decide) (.slice none 0 0) 0 _ rfl HQ.out (evCells ⟨4, 2, 0, k⟩) w2.heap.size rfl rfl rfl rfl (by omega) (by omega) HSZ.out ?_)
          intro qv w3 hown hbel hg hat
          have HQA := Lib.hid (Below.kept HQ.out (balloc w2 (.cells (evCells ⟨4, 2, 0, k⟩).toArray 39)))
          have HL3 := Lib.hid ((HL2.out.keep (balloc _ _)).grown HQA.out hg)
          have HB3 := Lib.hid (HB2.out.trans (hbel.mono HBASE.out))
          have R_3 := Lib.hid (own_two (Below.kept R_2.out (balloc _ _)) AP_R.out hg)
          have AP_R := Lib.hid (apart_next (w := w2.alloc (.cells (evCells ⟨4, 2, 0, k⟩).toArray 39)) (Below.kept R_2.out (balloc _ _)) AP_R.out (hat.imp id (fun h => ⟨_, (by simp), h⟩)))
          replace KV := Lib.hid (typed_apart (keep_at KV.out (balloc _ _)) hg (fun g h => own_typed HQA.out h) (by decide))
          have HSZ := Lib.hid (Nat.le_trans HSZ.out hbel.size)
          obtain ⟨qa3, qc3, rfl⟩ := own_shape hown
          have HQ := Lib.hid (show EvRow w3 base (.slice qa3 1 qc3) [⟨4, 2, 0, k⟩] from hown)
          clear hown hbel hg hat HL2 HB2 R_2
          have v1 := BlockIs.of KV.out 1 _ rfl
          have v2 := BlockIs.of KV.out 2 _ rfl
          go_wp2_with (first | (go_at_call 12; refine (num_any _ _).mono ?_; rintro e w' ⟨rfl, hw⟩; subst w') | fail)
          refine (sameEvents_any _ _ [⟨4, 2, 0, k⟩] _ (EvRow.events R_3.out (by simp)) (EvRow.events HQ.out (by simp))).mono ?_
          rintro e w4 ⟨rfl, hb⟩
          have v1 := Ext.below hb _ _ v1
          have v2 := Ext.below hb _ _ v2
          replace KV := Lib.hid (keep_at KV.out hb)
          have HL4 := Lib.hid (HL3.out.keep hb)
          have HB4 := Lib.hid (bthen HB3.out hb)
          have R_4 := Lib.hid (Below.kept R_3.out hb)
          clear HB3 R_3
          clear hb HL3
          go_wp2_with fail
          go_roundw
          case rel => exact ⟨k + 1, by omega, by omega, by omega, by go_num, Lib.hid (by rw [show ((k + 1 : Nat) : Int) - 1 = k by omega]; exact HL4.out), HB4⟩
          case measure => simp [intOf]; omega
        · have FA := Lib.hid (show ((k : Int) == (a : Int)) = false by simp; omega)
          have c4 : ((k : Int) == (a : Int)) = false := FA.out
          have HR := Lib.hid (kill_run 1 a b d (k : Int) (.inr rfl))
          have HRV := Lib.hid (show runV (kS 1 a b d ((k : Int) - 1)) = ⟨false, false, false⟩ by rw [HR.out.1]; simp only [FA.out, FD.out, FB.out]; rfl)
          have HRL := Lib.hid (show runEv (kS 1 a b d ((k : Int) - 1)) = [] by rw [HR.out.2.2.1]; simp only [FA.out, FD.out, FB.out]; rfl)
          have HRS := Lib.hid (show runS (kS 1 a b d ((k : Int) - 1)) = kS 1 a b d (k : Int) by rw [HR.out.2.2.2]; simp only [FD.out, FB.out]; rfl)
          go_wp2_with (first | (go_at_call 12; refine (num_any _ _).mono ?_; rintro e w' ⟨rfl, hw⟩; subst w') | fail)
          refine (run_is b0 lo (kS 1 a b d ((k : Int) - 1)) 6 _ HL0.out).mono ?_
          rw [HRV.out, HR.out.2.1]
          rintro e w1 ⟨ra1, rn1, rc1, rfl, hl, hr, hk⟩
          rw [HRL.out] at hr
          rw [HRS.out] at hl
          obtain rfl : rn1 = 0 := by obtain ⟨_, _, q⟩ := own_shape hr; injection q
          have HL1 := Lib.hid hl
          have HB1 := Lib.hid (HB0.out.trans (hk.below.mono HLO.out))
          clear HB0
          have R_1 := Lib.hid hr
          clear hl hr hk HL0
          obtain ⟨w2, hw_w2⟩ : ∃ w2, w2 = w1.alloc (.cells #[.bool false, .bool false, .bool false] 41) := ⟨_, rfl⟩
          obtain ⟨g2, hg_g2⟩ : ∃ g2, g2 = w1.heap.size := ⟨_, rfl⟩
          have hb_w2 : Below w1.heap.size w1 w2 := by rw [hw_w2]; exact balloc _ _
          have hk_g2 : w2.heap[g2]? = some (.cells #[.bool false, .bool false, .bool false] 41 (0, 0)) := by rw [hw_w2, hg_g2]; exact blk_new _ _
          have hs_w2 : w2.heap.size = w1.heap.size + 1 := by rw [hw_w2]; simp
          subst hg_g2
          have hb := hb_w2
          have HL2 := Lib.hid (HL1.out.keep hb)
          have KV := Lib.hid hk_g2
          have HB2 := Lib.hid (bthen HB1.out hb)
          have R_2 := Lib.hid (Below.kept R_1.out hb)
          clear hb hb_w2 hk_g2 hs_w2 HL1 HB1 R_1
          go_upto_region 21 with (fail)
          rw [← hw_w2]
          clear hw_w2
          have HQ := Lib.hid (show EventsV w2 (.slice none 0 0) [] from slice0 _ _ _ _)
          have v1 := BlockIs.of KV.out 1 _ rfl
          have v2 := BlockIs.of KV.out 2 _ rfl
          go_wp2_with (first | (go_at_call 12; refine (num_any _ _).mono ?_; rintro e w' ⟨rfl, hw⟩; subst w') | fail)
          refine (sameEvents_any _ _ [] _ (EvRow.events R_2.out (by simp)) HQ.out).mono ?_
          rintro e w3 ⟨rfl, hb⟩
          have v1 := Ext.below hb _ _ v1
          have v2 := Ext.below hb _ _ v2
          replace KV := Lib.hid (keep_at KV.out hb)
          have HL3 := Lib.hid (HL2.out.keep hb)
          have HB3 := Lib.hid (bthen HB2.out hb)
          have R_3 := Lib.hid (Below.kept R_2.out hb)
          clear HB2 R_2
          clear hb HL2
          go_wp2_with fail
          go_roundw
          case rel => exact ⟨k + 1, by omega, by omega, by omega, by go_num, Lib.hid (by rw [show ((k + 1 : Nat) : Int) - 1 = k by omega]; exact HL3.out), HB3⟩
          case measure => simp [intOf]; omega
set_option maxRecDepth 100000 in
set_option maxHeartbeats 16000000 in
theorem jobKills_false (demand low high : Int) (w : World) :
    Calls Try.prog 9 #[.int .i64 demand, .int .i64 low, .int .i64 high, .bool false] w fun e w' => e = .returned (.bool true) ∧ Below w.heap.size w w' := by
  obtain ⟨y, hy⟩ := Int.eq_ofNat_of_zero_le (show 0 ≤ bits BinOp.and IntKind.i64 low 7 by rw [i64_and7]; omega)
  have hy1 : y ≤ 7 := by have := i64_and7 low; omega
  obtain ⟨a, ha⟩ : ∃ a : Nat, a = 1 + y := ⟨_, rfl⟩
  have hd1 : IntKind.i64.wrap (1 + (y : Int)) = (a : Int) := by rw [IntKind.wrap_i64]; omega
  obtain ⟨b, hb0⟩ : ∃ b : Nat, b = a := ⟨_, rfl⟩
  subst hb0
  obtain ⟨x, hx⟩ := Int.eq_ofNat_of_zero_le (show 0 ≤ bits BinOp.and IntKind.i64 demand 31 by rw [i64_and31]; omega)
  have hx1 : x ≤ 31 := by have := i64_and31 demand; omega
  obtain ⟨d, hd⟩ : ∃ d : Nat, d = 1 + x := ⟨_, rfl⟩
  have hd3 : IntKind.i64.wrap (1 + (x : Int)) = (d : Int) := by rw [IntKind.wrap_i64]; omega
  have HAB := Lib.hid (show 1 ≤ b ∧ b ≤ b ∧ b ≤ 40 ∧ 1 ≤ d ∧ d ≤ 32 by omega)
  clear ha hd
  go_enter Try.func9, Try.ntmps9
  go_wp2_with fail
  refine (awake14 _).mono ?_
  rintro e w1 ⟨rfl, hb⟩
  have HB1 := Lib.hid hb
  clear hb
  obtain ⟨w2, hw_w2⟩ : ∃ w2, w2 = w1.alloc (.cells #[.int .i64 1, .int .i64 40, .int .i64 40, .int .i64 b, .int .i64 b, .int .i64 0] 50) := ⟨_, rfl⟩
  obtain ⟨g2, hg_g2⟩ : ∃ g2, g2 = w1.heap.size := ⟨_, rfl⟩
  have hb_w2 : Below w1.heap.size w1 w2 := by rw [hw_w2]; exact balloc _ _
  have hk_g2 : w2.heap[g2]? = some (.cells #[.int .i64 1, .int .i64 40, .int .i64 40, .int .i64 b, .int .i64 b, .int .i64 0] 50 (0, 0)) := by rw [hw_w2, hg_g2]; exact blk_new _ _
  have hs_w2 : w2.heap.size = w1.heap.size + 1 := by rw [hw_w2]; simp
  subst hg_g2
  have HB2 := Lib.hid (bthen HB1.out hb_w2)
  have HP := Lib.hid (show PartIs w2 (.slice (some ⟨w1.heap.size, 0, none⟩) 1 1) (.slice none 0 0) (lone 0 (kT b b)) from ⟨slice1 (by decide) ⟨BlockIs.of hk_g2 0 _ rfl, BlockIs.of hk_g2 1 _ rfl, BlockIs.of hk_g2 2 _ rfl, BlockIs.of hk_g2 3 _ rfl, BlockIs.of hk_g2 4 _ rfl, BlockIs.of hk_g2 5 _ rfl⟩, slice0 _ _ _ _⟩)
  clear hb_w2 hk_g2 hs_w2 HB1
  go_wp2_with fail
  rw [← hw_w2]
  clear hw_w2
  refine (new_is 2 (lone 0 (kT b b)) _ _ _ HP.out (lone_ok (by decide) (by decide) (by decide) (kT_may (by have := HAB.out; omega) (by have := HAB.out; omega) (by have := HAB.out; omega)) (by intro h; first | rfl | exact absurd h (by decide)))).mono ?_
  rintro e w3 ⟨b0, rfl, hl, hb⟩
  have HL3 := Lib.hid (show LocIs w3 b0 w2.heap.size (loneS 2 0 (kT b b) ⟨-1, []⟩ 0 []) 0 from hl)
  have HB3 := Lib.hid (bthen HB2.out hb)
  obtain ⟨lo, hlo⟩ : ∃ lo, lo = w2.heap.size := ⟨_, rfl⟩
  have HLO := Lib.hid (show w.heap.size ≤ lo by rw [hlo]; exact HB2.out.size)
  rw [← hlo] at HL3
  clear hl hb hlo HP HB2
  have HKB := Lib.hid (kill_begin (l := 0) (a := b) (b := b) (d := d) (by have := HAB.out; omega) (by have := HAB.out; omega) (by have := HAB.out; omega) (by have := HAB.out; omega) (by have := HAB.out; omega))
  go_wp2_with (first | (go_at_call 12; refine (num_any _ _).mono ?_; rintro e w' ⟨rfl, hw⟩; subst w') | fail)
  refine (pick_is b0 lo _ 0 0 d 7 _ HL3.out).mono ?_
  rw [HKB.out.1]
  rintro e w4 ⟨ra4, rn4, rc4, rfl, hl, hr, hk⟩
  rw [HKB.out.2.2.1] at hr
  rw [HKB.out.2.1] at hl
  obtain rfl : rn4 = 0 := by obtain ⟨_, _, q⟩ := own_shape hr; injection q
  have HL4 := Lib.hid hl
  have HB4 := Lib.hid (HB3.out.trans (hk.below.mono HLO.out))
  clear HB3
  clear hl hr hk HL3
  go_wp2_with (first | (go_at_call 12; refine (num_any _ _).mono ?_; rintro e w' ⟨rfl, hw⟩; subst w') | fail)
  refine (begin_is b0 lo _ 0 7 _ HL4.out (by decide) (by decide)).mono ?_
  rintro e w5 ⟨ra5, rn5, rc5, rfl, hl, hr, hk⟩
  rw [HKB.out.2.2.2.2] at hr
  rw [HKB.out.2.2.2.1] at hl
  obtain rfl : rn5 = 1 := by obtain ⟨_, _, q⟩ := own_shape hr; injection q
  have HL5 := Lib.hid hl
  have HB5 := Lib.hid (HB4.out.trans (hk.below.mono HLO.out))
  clear HB4
  have R_5 := Lib.hid hr
  clear hl hr hk HL4
  obtain ⟨w6, hw_w6⟩ : ∃ w6, w6 = w5.alloc (.cells #[.int .i64 1, .int .i64 2, .int .i64 0, .int .i64 d] 39) := ⟨_, rfl⟩
  obtain ⟨g6, hg_g6⟩ : ∃ g6, g6 = w5.heap.size := ⟨_, rfl⟩
  have hb_w6 : Below w5.heap.size w5 w6 := by rw [hw_w6]; exact balloc _ _
  have hk_g6 : w6.heap[g6]? = some (.cells #[.int .i64 1, .int .i64 2, .int .i64 0, .int .i64 d] 39 (0, 0)) := by rw [hw_w6, hg_g6]; exact blk_new _ _
  have hs_w6 : w6.heap.size = w5.heap.size + 1 := by rw [hw_w6]; simp
  subst hg_g6
  have hb := hb_w6
  have HL6 := Lib.hid (HL5.out.keep hb)
  have KE := Lib.hid hk_g6
  have HB6 := Lib.hid (bthen HB5.out hb)
  have R_6 := Lib.hid (Below.kept R_5.out hb)
  clear HB5 R_5
  clear hb hb_w6 hk_g6 hs_w6 HL5
  go_wp2_with (first | (go_at_call 12; refine (num_any _ _).mono ?_; rintro e w' ⟨rfl, hw⟩; subst w') | fail)
  rw [← hw_w6]
  clear hw_w6
  refine (sameEvents_any _ _ [⟨1, 2, 0, d⟩] _ (EvRow.events R_6.out (by simp)) (slice1 (by decide) ⟨BlockIs.of KE.out 0 _ rfl, BlockIs.of KE.out 1 _ rfl, BlockIs.of KE.out 2 _ rfl, BlockIs.of KE.out 3 _ rfl⟩)).mono ?_
  rintro e w7 ⟨rfl, hb⟩
  replace KE := Lib.hid (keep_at KE.out hb)
  have HL7 := Lib.hid (HL6.out.keep hb)
  have HB7 := Lib.hid (bthen HB6.out hb)
  have R_7 := Lib.hid (Below.kept R_6.out hb)
  clear HB6 R_6
  clear hb HL6
  go_wp2_with fail
  have HLZ := Lib.hid (show LocIs w7 b0 lo (kS 0 b b d (((1 : Nat) : Int) - 1)) 6 from HL7.out)
  have HBZ := HB7
  clear HL7 HB7 R_7 KE
  go_loopw [19] (fun i wr => ∃ k : Nat, 1 ≤ k ∧ k ≤ d ∧ k ≤ b ∧ i = .int .i64 k ∧ Hid (LocIs wr b0 lo (kS 0 b b d ((k : Int) - 1)) 6) ∧ Hid (Below w.heap.size w wr)) (fun i _ => 33 - (intOf i).toNat)
  case atStart => exact ⟨1, by omega, by have := HAB.out; omega, by have := HAB.out; omega, rfl, HLZ, HBZ⟩
  case round =>
    obtain ⟨k, hk1, hkd, hkb, rfl, HL0, HB0⟩ := hrel
    have hk32 : (k : Int) ≤ 32 := by have := HAB.out; omega
    have hd32 := HAB.out.2.2.2.2
    by_cases h1 : k = d
    · have FD := Lib.hid (show ((k : Int) == (d : Int)) = true by simp [h1])
      obtain ⟨fb, hfb⟩ : ∃ fb, ((k : Int) == (b : Int)) = fb := ⟨_, rfl⟩
      have FB := Lib.hid hfb
      have c1 : ((k : Int) == (d : Int)) = true := FD.out
      have c2 : ¬ (k : Int) < (d : Int) := by omega
      clear h1
      cases fb
      all_goals
        have HR := Lib.hid (kill_run 0 b b d (k : Int) (.inl ⟨rfl, rfl⟩))
        have HRV := Lib.hid (show runV (kS 0 b b d ((k : Int) - 1)) = ⟨false, true, false⟩ by rw [HR.out.1]; simp only [FD.out, FB.out]; rfl)
        have HRL := Lib.hid (show runEv (kS 0 b b d ((k : Int) - 1)) = [⟨5, 2, 0, k⟩] by rw [HR.out.2.2.1]; simp only [FD.out, FB.out]; rfl)
        have HRS := Lib.hid (show runS (kS 0 b b d ((k : Int) - 1)) = kN 0 b b by rw [HR.out.2.2.2]; simp only [FD.out, FB.out]; rfl)
        go_wp2_with (first | (go_at_call 12; refine (num_any _ _).mono ?_; rintro e w' ⟨rfl, hw⟩; subst w') | fail)
        refine (run_is b0 lo (kS 0 b b d ((k : Int) - 1)) 6 _ HL0.out).mono ?_
        rw [HRV.out, HR.out.2.1]
        rintro e w1 ⟨ra1, rn1, rc1, rfl, hl, hr, hk⟩
        rw [HRL.out] at hr
        rw [HRS.out] at hl
        obtain rfl : rn1 = 1 := by obtain ⟨_, _, q⟩ := own_shape hr; injection q
        have HL1 := Lib.hid hl
        have HB1 := Lib.hid (HB0.out.trans (hk.below.mono HLO.out))
        clear HB0
        have R_1 := Lib.hid hr
        clear hl hr hk HL0
        obtain ⟨w2, hw_w2⟩ : ∃ w2, w2 = w1.alloc (.cells #[.bool false, .bool true, .bool false] 41) := ⟨_, rfl⟩
        obtain ⟨g2, hg_g2⟩ : ∃ g2, g2 = w1.heap.size := ⟨_, rfl⟩
        have hb_w2 : Below w1.heap.size w1 w2 := by rw [hw_w2]; exact balloc _ _
        have hk_g2 : w2.heap[g2]? = some (.cells #[.bool false, .bool true, .bool false] 41 (0, 0)) := by rw [hw_w2, hg_g2]; exact blk_new _ _
        have hs_w2 : w2.heap.size = w1.heap.size + 1 := by rw [hw_w2]; simp
        subst hg_g2
        have hb := hb_w2
        have HL2 := Lib.hid (HL1.out.keep hb)
        have KV := Lib.hid hk_g2
        have HB2 := Lib.hid (bthen HB1.out hb)
        have R_2 := Lib.hid (Below.kept R_1.out hb)
        clear hb hb_w2 hk_g2 hs_w2 HL1 HB1 R_1
        go_upto_region 21 with (fail)
        rw [← hw_w2]
        clear hw_w2
        obtain ⟨base, hbase⟩ : ∃ base, base = w2.heap.size := ⟨_, rfl⟩
        have HBASE := Lib.hid (show w.heap.size ≤ base by rw [hbase]; exact HB2.out.size)
        have HSZ := Lib.hid (show base ≤ w2.heap.size by rw [hbase]; exact Nat.le_refl _)
        have HQ := Lib.hid (show EvRow w2 base (.slice none 0 0) [] from World.ownsRow_nil _ _ _ _)
        have AP_R := Lib.hid (show Apart (.slice ra1 1 rc1) (.slice none 0 0) from fun g _ h => by cases h)
        clear hbase
        go_wp2_with (at_builtin; refine append_elem_at rfl (.tmp 116) (.tmp 119) 33 rfl base 39 _ 4 32 Try.underlying33 infoEvent rfl (by decide) (.slice none 0 0) 0 _ rfl HQ.out (evCells ⟨5, 2, 0, k⟩) w2.heap.size rfl rfl rfl rfl (by omega) (by omega) HSZ.out ?_)
        intro qv w3 hown hbel hg hat
        have HQA := Lib.hid (Below.kept HQ.out (balloc w2 (.cells (evCells ⟨5, 2, 0, k⟩).toArray 39)))
        have HL3 := Lib.hid ((HL2.out.keep (balloc _ _)).grown HQA.out hg)
        have HB3 := Lib.hid (HB2.out.trans (hbel.mono HBASE.out))
        have R_3 := Lib.hid (own_two (Below.kept R_2.out (balloc _ _)) AP_R.out hg)
        have AP_R := Lib.hid (apart_next (w := w2.alloc (.cells (evCells ⟨5, 2, 0, k⟩).toArray 39)) (Below.kept R_2.out (balloc _ _)) AP_R.out (hat.imp id (fun h => ⟨_, (by simp), h⟩)))
        replace KV := Lib.hid (typed_apart (keep_at KV.out (balloc _ _)) hg (fun g h => own_typed HQA.out h) (by decide))
        have HSZ := Lib.hid (Nat.le_trans HSZ.out hbel.size)
        obtain ⟨qa3, qc3, rfl⟩ := own_shape hown
        have HQ := Lib.hid (show EvRow w3 base (.slice qa3 1 qc3) [⟨5, 2, 0, k⟩] from hown)
        clear hown hbel hg hat HL2 HB2 R_2
        have v1 := BlockIs.of KV.out 1 _ rfl
        have v2 := BlockIs.of KV.out 2 _ rfl
        go_wp2_with (first | (go_at_call 12; refine (num_any _ _).mono ?_; rintro e w' ⟨rfl, hw⟩; subst w') | fail)
        refine (sameEvents_any _ _ [⟨5, 2, 0, k⟩] _ (EvRow.events R_3.out (by simp)) (EvRow.events HQ.out (by simp))).mono ?_
        rintro e w4 ⟨rfl, hb⟩
        have v1 := Ext.below hb _ _ v1
        have v2 := Ext.below hb _ _ v2
        replace KV := Lib.hid (keep_at KV.out hb)
        have HL4 := Lib.hid (HL3.out.keep hb)
        have HB4 := Lib.hid (bthen HB3.out hb)
        have R_4 := Lib.hid (Below.kept R_3.out hb)
        clear HB3 R_3
        clear hb HL3
        go_wp2_with fail
        have HN := Lib.hid (lone_none (i := 2) (l := 0) (t := kT b b) (s := ⟨7, []⟩) (q := 1))
        refine (run_is b0 lo (kN 0 b b) 6 _ HL4.out).mono ?_
        rintro e w5 ⟨ra5, rn5, rc5, rfl, hl, hr, hk⟩
        rw [show runV (kN 0 b b) = ⟨false, false, false⟩ from HN.out.1, show runE (kN 0 b b) = 1401 from HN.out.2.2.1]
        rw [show runEv (kN 0 b b) = [] from HN.out.2.2.2.1] at hr
        rw [show runS (kN 0 b b) = kN 0 b b from HN.out.2.1] at hl
        obtain rfl : rn5 = 0 := by obtain ⟨_, _, q⟩ := own_shape hr; injection q
        have HL5 := Lib.hid hl
        have HB5 := Lib.hid (HB4.out.trans (hk.below.mono HLO.out))
        have R_5 := Lib.hid (hk.rows _ _ _ _ R_4.out)
        clear HB4 R_4
        clear hl hr hk HL4
        obtain ⟨w6, hw_w6⟩ : ∃ w6, w6 = w5.alloc (.cells #[.bool false, .bool false, .bool false] 41) := ⟨_, rfl⟩
        obtain ⟨g6, hg_g6⟩ : ∃ g6, g6 = w5.heap.size := ⟨_, rfl⟩
        have hb_w6 : Below w5.heap.size w5 w6 := by rw [hw_w6]; exact balloc _ _
        have hk_g6 : w6.heap[g6]? = some (.cells #[.bool false, .bool false, .bool false] 41 (0, 0)) := by rw [hw_w6, hg_g6]; exact blk_new _ _
        have hs_w6 : w6.heap.size = w5.heap.size + 1 := by rw [hw_w6]; simp
        subst hg_g6
        have hb := hb_w6
        have HL6 := Lib.hid (HL5.out.keep hb)
        have HB6 := Lib.hid (bthen HB5.out hb)
        have R_6 := Lib.hid (Below.kept R_5.out hb)
        clear HB5 R_5
        clear hb hb_w6 hk_g6 hs_w6 HL5
        go_wp2_with (first | (go_at_call 12; refine (num_any _ _).mono ?_; rintro e w' ⟨rfl, hw⟩; subst w') | fail)
        rw [← hw_w6]
        clear hw_w6
        refine (fail_is b0 lo (kN 0 b b) 6 _ HL6.out).mono ?_
        rintro e w7 ⟨ra7, rn7, rc7, rfl, hl, hr, hk⟩
        rw [show runE (kN 0 b b) = 1401 from HN.out.2.2.1]
        rw [show failEv (kN 0 b b) = [] from HN.out.2.2.2.2.2] at hr
        rw [show failS (kN 0 b b) = kN 0 b b from HN.out.2.2.2.2.1] at hl
        obtain rfl : rn7 = 0 := by obtain ⟨_, _, q⟩ := own_shape hr; injection q
        have HL7 := Lib.hid hl
        have HB7 := Lib.hid (HB6.out.trans (hk.below.mono HLO.out))
        have R_7 := Lib.hid (hk.rows _ _ _ _ R_6.out)
        clear HB6 R_6
        clear hl hr hk HL6
        go_wp2_with (first | (go_at_call 12; refine (num_any _ _).mono ?_; rintro e w' ⟨rfl, hw⟩; subst w') | fail)
        refine (ready_is b0 lo (kN 0 b b) 6 _ HL7.out).mono ?_
        rintro e w' ⟨rfl, hw⟩
        subst w'
        rw [show decide (0 < (kN 0 b b).js.length) = false from rfl]
        go_wp2_with (first | (go_at_call 12; refine (num_any _ _).mono ?_; rintro e w' ⟨rfl, hw⟩; subst w') | fail)
        refine (jobs_is b0 lo (kN 0 b b) 6 _ HL7.out).mono ?_
        rintro e w8 ⟨jv, rfl, hj, hb⟩
        rw [show (kN 0 b b).js = [] from rfl] at hj
        obtain ⟨ja, jc, rfl⟩ := own_shape hj
        clear hj
        have HL8 := Lib.hid (HL7.out.keep hb)
        have HB8 := Lib.hid (bthen HB7.out hb)
        have R_8 := Lib.hid (Below.kept R_7.out hb)
        clear HB7 R_7
        clear hb HL7
        go_wp2_with fail
        go_ret
        exact ⟨rfl, HB8.out⟩
    · have FD := Lib.hid (show ((k : Int) == (d : Int)) = false by simp; omega)
      have c1 : ((k : Int) == (d : Int)) = false := FD.out
      have c2 : (k : Int) < (d : Int) := by omega
      by_cases h2 : k = b
      · have FB := Lib.hid (show ((k : Int) == (b : Int)) = true by simp [h2])
        have c3 : ((k : Int) == (b : Int)) = true := FB.out
        clear h2
        have HR := Lib.hid (kill_run 0 b b d (k : Int) (.inl ⟨rfl, rfl⟩))
        have HRV := Lib.hid (show runV (kS 0 b b d ((k : Int) - 1)) = ⟨false, false, true⟩ by rw [HR.out.1]; simp only [FD.out, FB.out]; rfl)
        have HRL := Lib.hid (show runEv (kS 0 b b d ((k : Int) - 1)) = [⟨6, 2, 0, k⟩] by rw [HR.out.2.2.1]; simp only [FD.out, FB.out]; rfl)
        have HRS := Lib.hid (show runS (kS 0 b b d ((k : Int) - 1)) = kN 0 b b by rw [HR.out.2.2.2]; simp only [FD.out, FB.out]; rfl)
        go_wp2_with (first | (go_at_call 12; refine (num_any _ _).mono ?_; rintro e w' ⟨rfl, hw⟩; subst w') | fail)
        refine (run_is b0 lo (kS 0 b b d ((k : Int) - 1)) 6 _ HL0.out).mono ?_
        rw [HRV.out, HR.out.2.1]
        rintro e w1 ⟨ra1, rn1, rc1, rfl, hl, hr, hk⟩
        rw [HRL.out] at hr
        rw [HRS.out] at hl
        obtain rfl : rn1 = 1 := by obtain ⟨_, _, q⟩ := own_shape hr; injection q
        have HL1 := Lib.hid hl
        have HB1 := Lib.hid (HB0.out.trans (hk.below.mono HLO.out))
        clear HB0
        have R_1 := Lib.hid hr
        clear hl hr hk HL0
        obtain ⟨w2, hw_w2⟩ : ∃ w2, w2 = w1.alloc (.cells #[.bool false, .bool false, .bool true] 41) := ⟨_, rfl⟩
        obtain ⟨g2, hg_g2⟩ : ∃ g2, g2 = w1.heap.size := ⟨_, rfl⟩
        have hb_w2 : Below w1.heap.size w1 w2 := by rw [hw_w2]; exact balloc _ _
        have hk_g2 : w2.heap[g2]? = some (.cells #[.bool false, .bool false, .bool true] 41 (0, 0)) := by rw [hw_w2, hg_g2]; exact blk_new _ _
        have hs_w2 : w2.heap.size = w1.heap.size + 1 := by rw [hw_w2]; simp
        subst hg_g2
        have hb := hb_w2
        have HL2 := Lib.hid (HL1.out.keep hb)
        have KV := Lib.hid hk_g2
        have HB2 := Lib.hid (bthen HB1.out hb)
        have R_2 := Lib.hid (Below.kept R_1.out hb)
        clear hb hb_w2 hk_g2 hs_w2 HL1 HB1 R_1
        go_upto_region 21 with (fail)
        rw [← hw_w2]
        clear hw_w2
        obtain ⟨base, hbase⟩ : ∃ base, base = w2.heap.size := ⟨_, rfl⟩
        have HBASE := Lib.hid (show w.heap.size ≤ base by rw [hbase]; exact HB2.out.size)
        have HSZ := Lib.hid (show base ≤ w2.heap.size by rw [hbase]; exact Nat.le_refl _)
        have HQ := Lib.hid (show EvRow w2 base (.slice none 0 0) [] from World.ownsRow_nil _ _ _ _)
        have AP_R := Lib.hid (show Apart (.slice ra1 1 rc1) (.slice none 0 0) from fun g _ h => by cases h)
        clear hbase
        go_wp2_with (at_builtin; refine append_elem_at rfl (.tmp 124) (.tmp 127) 33 rfl base 39 _ 4 32 Try.underlying33 infoEvent rfl (by decide) (.slice none 0 0) 0 _ rfl HQ.out (evCells ⟨6, 2, 0, k⟩) w2.heap.size rfl rfl rfl rfl (by omega) (by omega) HSZ.out ?_)
        intro qv w3 hown hbel hg hat
        have HQA := Lib.hid (Below.kept HQ.out (balloc w2 (.cells (evCells ⟨6, 2, 0, k⟩).toArray 39)))
        have HL3 := Lib.hid ((HL2.out.keep (balloc _ _)).grown HQA.out hg)
        have HB3 := Lib.hid (HB2.out.trans (hbel.mono HBASE.out))
        have R_3 := Lib.hid (own_two (Below.kept R_2.out (balloc _ _)) AP_R.out hg)
        have AP_R := Lib.hid (apart_next (w := w2.alloc (.cells (evCells ⟨6, 2, 0, k⟩).toArray 39)) (Below.kept R_2.out (balloc _ _)) AP_R.out (hat.imp id (fun h => ⟨_, (by simp), h⟩)))
        replace KV := Lib.hid (typed_apart (keep_at KV.out (balloc _ _)) hg (fun g h => own_typed HQA.out h) (by decide))
        have HSZ := Lib.hid (Nat.le_trans HSZ.out hbel.size)
        obtain ⟨qa3, qc3, rfl⟩ := own_shape hown
        have HQ := Lib.hid (show EvRow w3 base (.slice qa3 1 qc3) [⟨6, 2, 0, k⟩] from hown)
        clear hown hbel hg hat HL2 HB2 R_2
        have v1 := BlockIs.of KV.out 1 _ rfl
        have v2 := BlockIs.of KV.out 2 _ rfl
        go_wp2_with (first | (go_at_call 12; refine (num_any _ _).mono ?_; rintro e w' ⟨rfl, hw⟩; subst w') | fail)
        refine (sameEvents_any _ _ [⟨6, 2, 0, k⟩] _ (EvRow.events R_3.out (by simp)) (EvRow.events HQ.out (by simp))).mono ?_
        rintro e w4 ⟨rfl, hb⟩
        have v1 := Ext.below hb _ _ v1
        have v2 := Ext.below hb _ _ v2
        replace KV := Lib.hid (keep_at KV.out hb)
        have HL4 := Lib.hid (HL3.out.keep hb)
        have HB4 := Lib.hid (bthen HB3.out hb)
        have R_4 := Lib.hid (Below.kept R_3.out hb)
        clear HB3 R_3
        clear hb HL3
        go_wp2_with fail
        have HN := Lib.hid (lone_none (i := 2) (l := 0) (t := kT b b) (s := ⟨7, []⟩) (q := 1))
        refine (run_is b0 lo (kN 0 b b) 6 _ HL4.out).mono ?_
        rintro e w5 ⟨ra5, rn5, rc5, rfl, hl, hr, hk⟩
        rw [show runV (kN 0 b b) = ⟨false, false, false⟩ from HN.out.1, show runE (kN 0 b b) = 1401 from HN.out.2.2.1]
        rw [show runEv (kN 0 b b) = [] from HN.out.2.2.2.1] at hr
        rw [show runS (kN 0 b b) = kN 0 b b from HN.out.2.1] at hl
        obtain rfl : rn5 = 0 := by obtain ⟨_, _, q⟩ := own_shape hr; injection q
        have HL5 := Lib.hid hl
        have HB5 := Lib.hid (HB4.out.trans (hk.below.mono HLO.out))
        have R_5 := Lib.hid (hk.rows _ _ _ _ R_4.out)
        clear HB4 R_4
        clear hl hr hk HL4
        obtain ⟨w6, hw_w6⟩ : ∃ w6, w6 = w5.alloc (.cells #[.bool false, .bool false, .bool false] 41) := ⟨_, rfl⟩
        obtain ⟨g6, hg_g6⟩ : ∃ g6, g6 = w5.heap.size := ⟨_, rfl⟩
        have hb_w6 : Below w5.heap.size w5 w6 := by rw [hw_w6]; exact balloc _ _
        have hk_g6 : w6.heap[g6]? = some (.cells #[.bool false, .bool false, .bool false] 41 (0, 0)) := by rw [hw_w6, hg_g6]; exact blk_new _ _
        have hs_w6 : w6.heap.size = w5.heap.size + 1 := by rw [hw_w6]; simp
        subst hg_g6
        have hb := hb_w6
        have HL6 := Lib.hid (HL5.out.keep hb)
        have HB6 := Lib.hid (bthen HB5.out hb)
        have R_6 := Lib.hid (Below.kept R_5.out hb)
        clear HB5 R_5
        clear hb hb_w6 hk_g6 hs_w6 HL5
        go_wp2_with (first | (go_at_call 12; refine (num_any _ _).mono ?_; rintro e w' ⟨rfl, hw⟩; subst w') | fail)
        rw [← hw_w6]
        clear hw_w6
        refine (fail_is b0 lo (kN 0 b b) 6 _ HL6.out).mono ?_
        rintro e w7 ⟨ra7, rn7, rc7, rfl, hl, hr, hk⟩
        rw [show runE (kN 0 b b) = 1401 from HN.out.2.2.1]
        rw [show failEv (kN 0 b b) = [] from HN.out.2.2.2.2.2] at hr
        rw [show failS (kN 0 b b) = kN 0 b b from HN.out.2.2.2.2.1] at hl
        obtain rfl : rn7 = 0 := by obtain ⟨_, _, q⟩ := own_shape hr; injection q
        have HL7 := Lib.hid hl
        have HB7 := Lib.hid (HB6.out.trans (hk.below.mono HLO.out))
        have R_7 := Lib.hid (hk.rows _ _ _ _ R_6.out)
        clear HB6 R_6
        clear hl hr hk HL6
        go_wp2_with (first | (go_at_call 12; refine (num_any _ _).mono ?_; rintro e w' ⟨rfl, hw⟩; subst w') | fail)
        refine (ready_is b0 lo (kN 0 b b) 6 _ HL7.out).mono ?_
        rintro e w' ⟨rfl, hw⟩
        subst w'
        rw [show decide (0 < (kN 0 b b).js.length) = false from rfl]
        go_wp2_with (first | (go_at_call 12; refine (num_any _ _).mono ?_; rintro e w' ⟨rfl, hw⟩; subst w') | fail)
        refine (jobs_is b0 lo (kN 0 b b) 6 _ HL7.out).mono ?_
        rintro e w8 ⟨jv, rfl, hj, hb⟩
        rw [show (kN 0 b b).js = [] from rfl] at hj
        obtain ⟨ja, jc, rfl⟩ := own_shape hj
        clear hj
        have HL8 := Lib.hid (HL7.out.keep hb)
        have HB8 := Lib.hid (bthen HB7.out hb)
        have R_8 := Lib.hid (Below.kept R_7.out hb)
        clear HB7 R_7
        clear hb HL7
        go_wp2_with fail
        go_ret
        exact ⟨rfl, HB8.out⟩
      · have FB := Lib.hid (show ((k : Int) == (b : Int)) = false by simp; omega)
        have c3 : ((k : Int) == (b : Int)) = false := FB.out
        have HR := Lib.hid (kill_run 0 b b d (k : Int) (.inl ⟨rfl, rfl⟩))
        have HRV := Lib.hid (show runV (kS 0 b b d ((k : Int) - 1)) = ⟨false, false, false⟩ by rw [HR.out.1]; simp only [FD.out, FB.out]; rfl)
        have HRL := Lib.hid (show runEv (kS 0 b b d ((k : Int) - 1)) = [] by rw [HR.out.2.2.1]; simp only [FD.out, FB.out]; rfl)
        have HRS := Lib.hid (show runS (kS 0 b b d ((k : Int) - 1)) = kS 0 b b d (k : Int) by rw [HR.out.2.2.2]; simp only [FD.out, FB.out]; rfl)
        go_wp2_with (first | (go_at_call 12; refine (num_any _ _).mono ?_; rintro e w' ⟨rfl, hw⟩; subst w') | fail)
        refine (run_is b0 lo (kS 0 b b d ((k : Int) - 1)) 6 _ HL0.out).mono ?_
        rw [HRV.out, HR.out.2.1]
        rintro e w1 ⟨ra1, rn1, rc1, rfl, hl, hr, hk⟩
        rw [HRL.out] at hr
        rw [HRS.out] at hl
        obtain rfl : rn1 = 0 := by obtain ⟨_, _, q⟩ := own_shape hr; injection q
        have HL1 := Lib.hid hl
        have HB1 := Lib.hid (HB0.out.trans (hk.below.mono HLO.out))
        clear HB0
        have R_1 := Lib.hid hr
        clear hl hr hk HL0
        obtain ⟨w2, hw_w2⟩ : ∃ w2, w2 = w1.alloc (.cells #[.bool false, .bool false, .bool false] 41) := ⟨_, rfl⟩
        obtain ⟨g2, hg_g2⟩ : ∃ g2, g2 = w1.heap.size := ⟨_, rfl⟩
        have hb_w2 : Below w1.heap.size w1 w2 := by rw [hw_w2]; exact balloc _ _
        have hk_g2 : w2.heap[g2]? = some (.cells #[.bool false, .bool false, .bool false] 41 (0, 0)) := by rw [hw_w2, hg_g2]; exact blk_new _ _
        have hs_w2 : w2.heap.size = w1.heap.size + 1 := by rw [hw_w2]; simp
        subst hg_g2
        have hb := hb_w2
        have HL2 := Lib.hid (HL1.out.keep hb)
        have KV := Lib.hid hk_g2
        have HB2 := Lib.hid (bthen HB1.out hb)
        have R_2 := Lib.hid (Below.kept R_1.out hb)
        clear hb hb_w2 hk_g2 hs_w2 HL1 HB1 R_1
        go_upto_region 21 with (fail)
        rw [← hw_w2]
        clear hw_w2
        have HQ := Lib.hid (show EventsV w2 (.slice none 0 0) [] from slice0 _ _ _ _)
        have v1 := BlockIs.of KV.out 1 _ rfl
        have v2 := BlockIs.of KV.out 2 _ rfl
        go_wp2_with (first | (go_at_call 12; refine (num_any _ _).mono ?_; rintro e w' ⟨rfl, hw⟩; subst w') | fail)
        refine (sameEvents_any _ _ [] _ (EvRow.events R_2.out (by simp)) HQ.out).mono ?_
        rintro e w3 ⟨rfl, hb⟩
        have v1 := Ext.below hb _ _ v1
        have v2 := Ext.below hb _ _ v2
        replace KV := Lib.hid (keep_at KV.out hb)
        have HL3 := Lib.hid (HL2.out.keep hb)
        have HB3 := Lib.hid (bthen HB2.out hb)
        have R_3 := Lib.hid (Below.kept R_2.out hb)
        clear HB2 R_2
        clear hb HL2
        go_wp2_with fail
        go_roundw
        case rel => exact ⟨k + 1, by omega, by omega, by omega, by go_num, Lib.hid (by rw [show ((k + 1 : Nat) : Int) - 1 = k by omega]; exact HL3.out), HB3⟩
        case measure => simp [intOf]; omega
theorem jobKills_any (demand low high : Int) (rank : Bool) (w : World) :
    Calls Try.prog 9 #[.int .i64 demand, .int .i64 low, .int .i64 high, .bool rank] w fun e w' => e = .returned (.bool true) ∧ Below w.heap.size w w' := by
  cases rank
  · exact jobKills_false demand low high w
  · exact jobKills_true demand low high w
end Go.Proofs.Ytbkhnlacabaagaa
