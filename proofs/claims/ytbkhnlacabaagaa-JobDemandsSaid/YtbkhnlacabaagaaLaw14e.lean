/- Chapter 14's law JobDemands. -/
import Derived.Test.YtbkhnlacabaagaaLaw14b
import Derived.Test.YtbkhnlacabaagaaMissP
set_option linter.unusedVariables false
set_option linter.unusedSimpArgs false
namespace Go.Proofs.Ytbkhnlacabaagaa
open Go.RowKit

/-- The schedule, away from the blocks of N. -/
def LocOff (W : World) (b lo : Nat) (S : LSt) (m : Int) (N : Nat → Prop) : Prop := ∃ ps F, LocAt W b lo ps F S ∧ LWf S m ∧ ∀ k, F k → ¬ N k
theorem LocOff.is {W : World} {b lo : Nat} {S : LSt} {m : Int} {N : Nat → Prop} (h : LocOff W b lo S m N) : LocIs W b lo S m := by
  obtain ⟨ps, F, h1, h2, -⟩ := h
  exact ⟨ps, F, h1, h2⟩
theorem LocIs.off {W : World} {b lo : Nat} {S : LSt} {m : Int} (h : LocIs W b lo S m) : LocOff W b lo S m (fun _ => False) := by
  obtain ⟨ps, F, h1, h2⟩ := h
  exact ⟨ps, F, h1, h2, fun _ _ q => q⟩
theorem pick_off (b lo : Nat) (S : LSt) (m i d now : Int) (N : Nat → Prop) (w : World) (hl : LocOff w b lo S m N) (hN : ∀ k, N k → k < w.heap.size) :
    Calls Try.prog 13 #[.pointer (some ⟨b, 0, none⟩), .int .i64 i, .int .i64 d, .int .i64 now] w fun e w' => ∃ a n c, e = .returned (.tuple #[.slice a n c, .int .i64 (pickErr S i d now)]) ∧ LocOff w' b lo (pickSt S i d now) m N ∧ EvRow w' w.heap.size (.slice a n c) (pickEv S i d now) ∧ Below lo w w' ∧ ∀ k, N k → w'.heap[k]? = w.heap[k]? := by
  obtain ⟨ps, F, h, hw, hf⟩ := hl
  refine (pick_any b lo ps F S m i d now w h hw).mono ?_
  rintro e w' ⟨a, n, c, rfl, F', h1, h2, h3, h4, h5⟩
  exact ⟨a, n, c, rfl, ⟨ps, F', h1, pickSt_wf hw _ _ _, fun k hk hn => by rcases h5 k hk with q | q; exact hf k q hn; have := hN k hn; omega⟩, h2, (Leaves.of h h3).below, fun k hk => h3.block k (hN k hk) (fun q => hf k q hk)⟩
theorem begin_off (b lo : Nat) (S : LSt) (m now : Int) (N : Nat → Prop) (w : World) (hl : LocOff w b lo S m N) (hm : m < 4000000000000000000) (hc : clockB now = true) (hN : ∀ k, N k → k < w.heap.size) :
    Calls Try.prog 14 #[.pointer (some ⟨b, 0, none⟩), .int .i64 now] w fun e w' => ∃ a n c, e = .returned (.tuple #[.slice a n c, .int .i64 0]) ∧ LocOff w' b lo (begS S now) (m + 6) N ∧ EvRow w' w.heap.size (.slice a n c) (begE S now) ∧ Below lo w w' ∧ ∀ k, N k → w'.heap[k]? = w.heap[k]? := by
  obtain ⟨ps, F, h, hw, hf⟩ := hl
  refine (begin_any b lo ps F S m now w h hw hm hc).mono ?_
  rintro e w' ⟨a, n, c, rfl, F', h1, h2, h3, h4, h5⟩
  exact ⟨a, n, c, rfl, ⟨ps, F', h1, begS_wf hw hc, fun k hk hn => by rcases h5 k hk with q | q; exact hf k q hn; have := hN k hn; omega⟩, h2, (Leaves.of h h3).below, fun k hk => h3.block k (hN k hk) (fun q => hf k q hk)⟩
/-- An own row of numbers as a set of blocks. -/
def ofRow (v : Value) : Nat → Prop := fun k => v.ownBlock = some k
theorem IntRow.far {W W' : World} {B : Nat} {v : Value} {xs : List Int} (h : IntRow W B v xs) (hk : ∀ k, ofRow v k → W'.heap[k]? = W.heap[k]?) : IntRow W' B v xs := by
  refine ⟨h.1, ?_⟩
  rcases h.2 with q | ⟨g, cap, cur, h1, h2, h3, h4⟩
  · exact .inl q
  · exact .inr ⟨g, cap, cur, h1, h2, (hk g (by rw [h1]; rfl)).trans h3, h4⟩
def deF (x : Int) : Int := 1 + x % 256
def deRow (xs : List Int) (i : Nat) : List Int := (xs.take (min i 4)).map deF
theorem deRow_dem (xs : List Int) (i : Nat) : ∀ x ∈ deRow xs i, demP x = true := by
  intro x hx
  unfold deRow at hx
  obtain ⟨y, -, rfl⟩ := List.mem_map.1 hx
  unfold demP deF
  refine decide_eq_true ?_
  omega
theorem deRow_len {xs : List Int} {i : Nat} (h : i ≤ xs.length) : (deRow xs i).length = min i 4 := by
  unfold deRow
  rw [List.length_map, List.length_take]
  omega
theorem deRow_next {xs : List Int} {i : Nat} (h : i < xs.length) (h4 : i < 4) : deRow xs (i + 1) = deRow xs i ++ [deF xs[i]] := by
  unfold deRow
  rw [show min (i + 1) 4 = i + 1 by omega, show min i 4 = i by omega, List.take_add_one, List.getElem?_eq_getElem h, List.map_append]
  rfl
theorem deRow_full {xs : List Int} {i : Nat} (h4 : 4 ≤ i) : deRow xs (i + 1) = deRow xs i := by
  unfold deRow
  rw [show min (i + 1) 4 = 4 by omega, show min i 4 = 4 by omega]
set_option maxRecDepth 100000 in
set_option maxHeartbeats 16000000 in
theorem jobDemands_any (xs : List Int) (v : Value) (period : Int) (w : World) (hv : IntsV w v xs) :
    Calls Try.prog 7 #[v, .int .i64 period] w fun e w' => e = .returned (.bool true) ∧ Below w.heap.size w w' := by
  obtain ⟨y, hy⟩ := Int.eq_ofNat_of_zero_le (show 0 ≤ bits BinOp.and IntKind.i64 period 7 by rw [i64_and7]; omega)
  have hy1 : y ≤ 7 := by have := i64_and7 period; omega
  obtain ⟨p, hp⟩ : ∃ p : Nat, p = 5 + y := ⟨_, rfl⟩
  have hd1 : IntKind.i64.wrap (5 + (y : Int)) = (p : Int) := by rw [IntKind.wrap_i64]; omega
  have hp1 : (5 : Int) ≤ (p : Int) ∧ (p : Int) ≤ 12 := by omega
  have HP0 := Lib.hid hp1
  have HV := Lib.hid hv
  obtain ⟨va, vc, rfl, hz1, hz2, hz3, -⟩ := id hv
  obtain ⟨n, hn⟩ : ∃ n, n = xs.length := ⟨_, rfl⟩
  rw [← hn] at HV ⊢
  have hnb : n ≤ 1000000000000000000 := by omega
  have HN := Lib.hid hn
  clear hp hp1 hv hz1 hz2 hz3 hn
  go_enter Try.func7, Try.ntmps7
  go_wp2_with fail
  refine (awake14 _).mono ?_
  rintro e w1 ⟨rfl, hb⟩
  have HB1 := Lib.hid hb
  clear hb
  obtain ⟨w2, hw_w2⟩ : ∃ w2, w2 = w1.alloc (.cells #[.int .i64 0, .int .i64 p, .int .i64 5, .int .i64 2, .int .i64 5, .int .i64 0] 50) := ⟨_, rfl⟩
  obtain ⟨g2, hg_g2⟩ : ∃ g2, g2 = w1.heap.size := ⟨_, rfl⟩
  have hb_w2 : Below w1.heap.size w1 w2 := by rw [hw_w2]; exact balloc _ _
  have hk_g2 : w2.heap[g2]? = some (.cells #[.int .i64 0, .int .i64 p, .int .i64 5, .int .i64 2, .int .i64 5, .int .i64 0] 50 (0, 0)) := by rw [hw_w2, hg_g2]; exact blk_new _ _
  have hs_w2 : w2.heap.size = w1.heap.size + 1 := by rw [hw_w2]; simp
  subst hg_g2
  have HB2 := Lib.hid (bthen HB1.out hb_w2)
  have HP := Lib.hid (show PartIs w2 (.slice (some ⟨w1.heap.size, 0, none⟩) 1 1) (.slice none 0 0) (lone 1 (deT p)) from ⟨slice1 (by decide) ⟨BlockIs.of hk_g2 0 _ rfl, BlockIs.of hk_g2 1 _ rfl, BlockIs.of hk_g2 2 _ rfl, BlockIs.of hk_g2 3 _ rfl, BlockIs.of hk_g2 4 _ rfl, BlockIs.of hk_g2 5 _ rfl⟩, slice0 _ _ _ _⟩)
  clear hb_w2 hk_g2 hs_w2 HB1
  go_wp2_with fail
  rw [← hw_w2]
  clear hw_w2
  refine (new_is 0 (lone 1 (deT p)) _ _ _ HP.out (lone_ok (by decide) (by decide) (.inr rfl) (by have := HP0.out; unfold taskMay deT; refine decide_eq_true ?_; dsimp only; omega) (fun h => absurd h (by decide)))).mono ?_
  rintro e w3 ⟨b0, rfl, hl0, hb⟩
  have HL3 := Lib.hid (show LocOff w3 b0 w2.heap.size (deS p (deRow xs 0)) 0 (ofRow (.slice none 0 0)) by
    obtain ⟨ps, F, h1, h2, -⟩ := hl0.off
    exact ⟨ps, F, h1, h2, fun k _ q => by cases q⟩)
  have HB3 := Lib.hid (bthen HB2.out hb)
  obtain ⟨lo, hlo⟩ : ∃ lo, lo = w2.heap.size := ⟨_, rfl⟩
  have HLO := Lib.hid (show w.heap.size ≤ lo by rw [hlo]; exact HB2.out.size)
  rw [← hlo] at HL3
  clear hl0 hb hlo HP HB2
  have HS3 := Lib.hid (Nat.le_refl w3.heap.size)
  go_wp2_with (first | (go_at_call 12; refine (num_any _ _).mono ?_; rintro e w' ⟨rfl, hw⟩; subst w') | fail)
  go_loopw [8, 9] (fun r i wr => ∃ q : Nat, q ≤ n ∧ q ≤ 6 ∧ i = .int .i64 q ∧ Hid (LocOff wr b0 lo (deS p (deRow xs q)) 0 (ofRow r)) ∧ Hid (IntRow wr w3.heap.size r (deRow xs q)) ∧ Hid (Below w.heap.size w wr) ∧ Hid (w3.heap.size ≤ wr.heap.size)) (fun _ i _ => n - (intOf i).toNat)
  case atStart => exact ⟨0, by omega, by omega, rfl, HL3, Lib.hid (by unfold deRow; simp; exact World.ownsRow_nil _ _ _ _), HB3, HS3⟩
  case round =>
    obtain ⟨i, hin, hi6, rfl, HL, HR, HB, HS⟩ := hrel
    have HRL := Lib.hid (deRow_len (xs := xs) (i := i) (by rw [← HN.out]; exact hin))
    have HNB := Lib.hid (show ∀ k, ofRow u8 k → k < wr.heap.size from fun k hk => (HR.out.lt k hk).2)
    by_cases hgo : i < n ∧ i < 6
    · obtain ⟨h1, h2⟩ := hgo
      have c1 : (i : Int) < (n : Int) := by omega
      have c2 : (i : Int) < 6 := by omega
      have hxl : i < xs.length := by rw [← HN.out]; exact h1
      obtain ⟨x, hx⟩ : ∃ x, x = xs[i] := ⟨_, rfl⟩
      obtain ⟨q, off, ec, z0⟩ : ∃ q off, Value.slice va n vc = .slice (some ⟨q, off, none⟩) n vc ∧ IntAt wr q (off + i) x := by
        obtain ⟨b, off, cap, e, hc⟩ := (HV.out.ext (Ext.below HB.out)).get hxl
        injection e with e _ _
        exact ⟨b, off, by rw [e], by rw [hx]; exact hc⟩
      injection ec with ec _ _
      subst ec
      unfold IntAt at z0
      have hfx : IntKind.i64.wrap (1 + bits BinOp.and IntKind.i64 x 255) = deF x := by rw [i64_and255, IntKind.wrap_i64]; unfold deF; omega
      obtain ⟨fx, hfd⟩ : ∃ fx, fx = deF x := ⟨_, rfl⟩
      rw [← hfd] at hfx
      have HFX := Lib.hid (And.intro hfd hx)
      have HDP := Lib.hid (de_pick (p := p) (d := fx) HP0.out.1 HP0.out.2 (deRow_dem xs i) (by rw [hfd]; unfold demP deF; refine decide_eq_true ?_; omega) (by rw [HRL.out]; omega))
      clear hfd hx
      go_wp2_with fail
      refine (pick_off b0 lo _ 0 0 fx 1 _ _ HL.out HNB.out).mono ?_
      rw [HDP.out.1, HDP.out.2.1]
      rintro e w4 ⟨ra, rn, rc, rfl, hl, -, hk, hkb⟩
      have HB4 := Lib.hid (HB.out.trans (hk.mono HLO.out))
      have HR4 := Lib.hid (HR.out.far hkb)
      have HS4 := Lib.hid (Nat.le_trans HS.out hk.size)
      by_cases h4 : i < 4
      · have c3 : (i : Int) < 4 := by omega
        have hne : ¬ (deRow xs i).length = 4 := by rw [HRL.out]; omega
        rw [if_neg hne] at hl ⊢
        have HL4 := Lib.hid hl
        obtain ⟨ia, ic, hrs⟩ := own_shape HR4.out
        obtain ⟨ri, hri⟩ : ∃ ri, ri = (deRow xs i).length := ⟨_, rfl⟩
        have HRI := Lib.hid hri
        rw [← hri] at hrs
        have hri4 : ri ≤ 4 := by rw [hri, HRL.out]; omega
        subst hrs
        have HRW := Lib.hid (show w4.ownsRow w3.heap.size 3 1 (.slice ia ri ic) ri ((deRow xs i).flatMap intCell) by have h := HR4.out; unfold IntRow at h; rw [← hri] at h; exact h)
        have hsz := HS4.out
        clear hl hk hkb hri hne z0 hfx
        go_wp2_with (first | (go_at_call 12; refine (num_any _ _).mono ?_; rintro e w' ⟨rfl, hw⟩; subst w') | (at_builtin; refine append_elem_at rfl (.tmp 67) (.tmp 69) 26 rfl w3.heap.size 3 _ 1 8 Try.underlying26 infoInt rfl (by decide) (.slice ia ri ic) ri _ rfl HRW.out (intCell fx) w4.heap.size rfl rfl rfl rfl (by omega) (by omega) hsz ?_))
        intro v5 w5 hown hbel hg hat
        have HX := Lib.hid (show deRow xs (i + 1) = deRow xs i ++ [fx] by rw [deRow_next hxl h4, HFX.out.1, HFX.out.2])
        have HR5 := Lib.hid (show IntRow w5 w3.heap.size v5 (deRow xs (i + 1)) by rw [HX.out]; exact IntRow.snoc HRI.out hown)
        have HL5 := Lib.hid (show LocOff w5 b0 lo (deS p (deRow xs (i + 1))) 0 (ofRow v5) by
          obtain ⟨ps, F, h1, h2, h3⟩ := HL4.out
          rw [HX.out]
          refine ⟨ps, F, h1.far (fun k hf => (hg.block k (Nat.lt_of_lt_of_le (h1.lt hf) (by simp)) (fun e => h3 k hf e.symm)).trans ((balloc _ _).block k (h1.lt hf))), h2, fun k hf hn => ?_⟩
          rcases hat with hat | hat
          · exact h3 k hf (by unfold ofRow at hn ⊢; rw [← hat]; exact hn)
          · unfold ofRow at hn
            rw [hat] at hn
            injection hn with hn
            have := h1.lt hf
            first | omega | (simp at hn; omega))
        have HB5 := Lib.hid (HB4.out.trans (hbel.mono HB3.out.size))
        have HS5 := Lib.hid (Nat.le_trans HS4.out hbel.size)
        obtain ⟨oa', oc', rfl⟩ := own_shape hown
        clear hown hbel hg hat
        go_wp2_with fail
        go_roundw
        case rel => exact ⟨i + 1, by omega, by omega, by go_num, HL5, HR5, HB5, HS5⟩
        case measure => simp [intOf]; omega
      · have c3 : ¬ (i : Int) < 4 := by omega
        have he : (deRow xs i).length = 4 := by rw [HRL.out]; omega
        rw [if_pos he] at hl ⊢
        have HX := Lib.hid (deRow_full (xs := xs) (i := i) (by omega))
        have HL4 := Lib.hid (show LocOff w4 b0 lo (deS p (deRow xs (i + 1))) 0 (ofRow u8) by rw [HX.out]; exact hl)
        have HR5 := Lib.hid (show IntRow w4 w3.heap.size u8 (deRow xs (i + 1)) by rw [HX.out]; exact HR4.out)
        clear hl hk hkb z0 hfx
        go_wp2_with (first | (go_at_call 12; refine (num_any _ _).mono ?_; rintro e w' ⟨rfl, hw⟩; subst w') | fail)
        go_roundw
        case rel => exact ⟨i + 1, by omega, by omega, by go_num, HL4, HR5, HB4, HS4⟩
        case measure => simp [intOf]; omega
    · by_cases h1 : i < n
      · have c1 : (i : Int) < (n : Int) := by omega
        have c2 : ¬ (i : Int) < 6 := by omega
        have HRR := Lib.hid (show (deRow xs i).length ≤ 4 by rw [HRL.out]; omega)
        have HRD := Lib.hid (deRow_dem xs i)
        obtain ⟨R, hRR⟩ : ∃ R, R = deRow xs i := ⟨_, rfl⟩
        rw [← hRR] at HL HR HRR HRD
        obtain ⟨ia, ic, hrs⟩ := own_shape HR.out
        obtain ⟨rl, hrl⟩ : ∃ rl, rl = R.length := ⟨_, rfl⟩
        have HRLN := Lib.hid hrl
        rw [← hrl] at hrs HRR
        subst hrs
        have hrl4 : rl ≤ 4 := HRR.out
        have HLX := Lib.hid (show LocOff wr b0 lo (deB p R 0) (6 * ((0 : Nat) : Int)) (ofRow (.slice ia rl ic)) from HL.out)
        clear hRR hrl HL HNB HRL
        go_wp2_with fail
        go_loopw [13] (fun kv wv => ∃ k : Nat, 1 ≤ k ∧ k ≤ 7 ∧ kv = .int .i64 k ∧ Hid (LocOff wv b0 lo (deB p R (k - 1)) (6 * ((k - 1 : Nat) : Int)) (ofRow (.slice ia rl ic))) ∧ Hid (IntRow wv w3.heap.size (.slice ia rl ic) R) ∧ Hid (Below w.heap.size w wv)) (fun kv _ => 7 - (intOf kv).toNat)
        case atStart => exact ⟨1, by omega, by omega, rfl, HLX, HR, HB⟩
        case round =>
          clear HLX HR HB
          obtain ⟨k, hk1, hk7, rfl, HL, HR, HB⟩ := hrel
          have HNB := Lib.hid (show ∀ q, ofRow (.slice ia rl ic) q → q < wr.heap.size from fun q hq => (HR.out.lt q hq).2)
          by_cases hle : k ≤ 6
          · have c5 : (k : Int) ≤ 6 := by omega
            obtain ⟨j, hj⟩ : ∃ j, j = k - 1 := ⟨_, rfl⟩
            have HPR := Lib.hid (de_prod HP0.out.1 HP0.out.2 k (by omega))
            have HBG := Lib.hid (de_begin HP0.out.1 HP0.out.2 HRD.out (by rw [← HRLN.out]; exact hrl4) j (by omega))
            obtain ⟨nw, hnw⟩ : ∃ nw : Int, nw = (k : Int) * (p : Int) := ⟨_, rfl⟩
            have hmw : IntKind.i64.wrap ((k : Int) * (p : Int)) = nw := by rw [IntKind.wrap_i64, hnw]; have := HPR.out; omega
            have HNW := Lib.hid (show 0 ≤ nw ∧ nw ≤ 100 by rw [hnw]; have := HPR.out; omega)
            have HBG := Lib.hid (show begS (deB p R j) nw = deB p R k ∧ begE (deB p R j) nw = (if j = 0 then [] else [⟨3, 0, 0, 0⟩]) ++ [⟨1, 0, 0, (R.drop j).headD 2⟩] by have h := HBG.out; rw [show j + 1 = k by omega] at h; rw [hnw]; exact h)
            rw [← hj] at HL
            have HJK := Lib.hid (show j + 1 = k by omega)
            obtain ⟨wt, hwt⟩ : ∃ wt, wt = (R.drop j).headD 2 := ⟨_, rfl⟩
            rw [← hwt] at HBG
            have HWT := Lib.hid hwt
            clear hnw hj hwt HPR
            go_wp2_with fail
            refine (begin_off b0 lo _ (6 * (j : Int)) nw _ _ HL.out (by have := HJK.out; omega) (clockYes HNW.out.1 (by have := HNW.out; omega)) HNB.out).mono ?_
            rintro e w4 ⟨ra, rn, rc, rfl, hl, hr, hk, hkb⟩
            rw [HBG.out.1] at hl
            rw [HBG.out.2] at hr
            have HL4 := Lib.hid (show LocOff w4 b0 lo (deB p R k) (6 * ((k : Nat) : Int)) (ofRow (.slice ia rl ic)) by rw [show (6 * ((k : Nat) : Int)) = 6 * (j : Int) + 6 by have := HJK.out; omega]; exact hl)
            have HR4 := Lib.hid (HR.out.far hkb)
            have HB4 := Lib.hid (HB.out.trans (hk.mono HLO.out))
            have HE := Lib.hid hr
            clear hl hr hk hkb
            by_cases hj0 : j = 0
            · rw [if_pos hj0] at HE
              clear hj0
              obtain rfl : rn = 1 := by obtain ⟨_, _, q⟩ := own_shape HE.out; injection q
              obtain ⟨eq, eo, ee, hx0⟩ : ∃ q o, Value.slice ra 1 rc = .slice (some ⟨q, o, none⟩) 1 rc ∧ EventAt w4 q o ⟨1, 0, 0, wt⟩ := by
                obtain ⟨a, c, e, -, -, -, hq⟩ := EvRow.events HE.out (by simp)
                obtain ⟨q, o, e2, hq2⟩ := hq (by simp)
                injection e with e _ _
                refine ⟨q, o, by rw [e, e2], ?_⟩
                have := hq2 0 (by simp)
                simpa using this
              injection ee with ee _ _
              subst ee
              obtain ⟨y0, y1, y2, y3⟩ := hx0
              unfold IntAt at y0 y1 y2 y3
              (try simp only [Nat.add_assoc, Nat.reduceAdd] at y1 y2 y3)
              by_cases hkr : k ≤ rl
              · have c6 : (k : Int) ≤ (rl : Int) := by omega
                have hjr : j < R.length := by rw [← HRLN.out]; have := HJK.out; omega
                obtain ⟨rq, roff, re, hz0⟩ : ∃ q off, Value.slice ia rl ic = .slice (some ⟨q, off, none⟩) rl ic ∧ IntAt w4 q (off + j) wt := by
                  obtain ⟨b, off, cap, e, hc⟩ := (HR4.out.ints (by rw [← HRLN.out]; omega)).get hjr
                  injection e with e _ e3
                  refine ⟨b, off, by rw [e], ?_⟩
                  have e4 : wt = R[j] := by
                    rw [HWT.out, List.drop_eq_getElem_cons hjr]
                    rfl
                  rw [e4]
                  exact hc
                injection re with re _ _
                subst re
                unfold IntAt at hz0
                have htn : ((k : Int) - 1).toNat = j := by have := HJK.out; omega
                have c7 : (0 : Int) ≤ (k : Int) - 1 := by omega
                have c8 : (k : Int) - 1 < (rl : Int) := by omega
                go_wp2_with (first | (go_at_call 12; refine (num_any _ _).mono ?_; rintro e w' ⟨rfl, hw⟩; subst w') | fail)
                go_roundw
                case rel => exact ⟨k + 1, by omega, by omega, by go_num, HL4, HR4, HB4⟩
                case measure => simp [intOf]; omega
              · have c6 : ¬ (k : Int) ≤ (rl : Int) := by omega
                have hwt2 : wt = 2 := by
                  rw [HWT.out, List.drop_eq_nil_of_le (by rw [← HRLN.out]; have := HJK.out; omega)]
                  rfl
                subst hwt2
                go_wp2_with (first | (go_at_call 12; refine (num_any _ _).mono ?_; rintro e w' ⟨rfl, hw⟩; subst w') | fail)
                go_roundw
                case rel => exact ⟨k + 1, by omega, by omega, by go_num, HL4, HR4, HB4⟩
                case measure => simp [intOf]; omega
            · rw [if_neg hj0] at HE
              obtain rfl : rn = 2 := by obtain ⟨_, _, q⟩ := own_shape HE.out; injection q
              obtain ⟨eq, eo, ee, hx0⟩ : ∃ q o, Value.slice ra 2 rc = .slice (some ⟨q, o, none⟩) 2 rc ∧ EventAt w4 q (o + 4) ⟨1, 0, 0, wt⟩ := by
                obtain ⟨a, c, e, -, -, -, hq⟩ := EvRow.events HE.out (by simp)
                obtain ⟨q, o, e2, hq2⟩ := hq (by simp)
                injection e with e _ _
                refine ⟨q, o, by rw [e, e2], ?_⟩
                have := hq2 1 (by simp)
                simpa using this
              injection ee with ee _ _
              subst ee
              obtain ⟨y0, y1, y2, y3⟩ := hx0
              unfold IntAt at y0 y1 y2 y3
              (try simp only [Nat.add_assoc, Nat.reduceAdd] at y1 y2 y3)
              by_cases hkr : k ≤ rl
              · have c6 : (k : Int) ≤ (rl : Int) := by omega
                have hjr : j < R.length := by rw [← HRLN.out]; have := HJK.out; omega
                obtain ⟨rq, roff, re, hz0⟩ : ∃ q off, Value.slice ia rl ic = .slice (some ⟨q, off, none⟩) rl ic ∧ IntAt w4 q (off + j) wt := by
                  obtain ⟨b, off, cap, e, hc⟩ := (HR4.out.ints (by rw [← HRLN.out]; omega)).get hjr
                  injection e with e _ e3
                  refine ⟨b, off, by rw [e], ?_⟩
                  have e4 : wt = R[j] := by
                    rw [HWT.out, List.drop_eq_getElem_cons hjr]
                    rfl
                  rw [e4]
                  exact hc
                injection re with re _ _
                subst re
                unfold IntAt at hz0
                have htn : ((k : Int) - 1).toNat = j := by have := HJK.out; omega
                have c7 : (0 : Int) ≤ (k : Int) - 1 := by omega
                have c8 : (k : Int) - 1 < (rl : Int) := by omega
                go_wp2_with (first | (go_at_call 12; refine (num_any _ _).mono ?_; rintro e w' ⟨rfl, hw⟩; subst w') | fail)
                go_roundw
                case rel => exact ⟨k + 1, by omega, by omega, by go_num, HL4, HR4, HB4⟩
                case measure => simp [intOf]; omega
              · have c6 : ¬ (k : Int) ≤ (rl : Int) := by omega
                have hwt2 : wt = 2 := by
                  rw [HWT.out, List.drop_eq_nil_of_le (by rw [← HRLN.out]; have := HJK.out; omega)]
                  rfl
                subst hwt2
                go_wp2_with (first | (go_at_call 12; refine (num_any _ _).mono ?_; rintro e w' ⟨rfl, hw⟩; subst w') | fail)
                go_roundw
                case rel => exact ⟨k + 1, by omega, by omega, by go_num, HL4, HR4, HB4⟩
                case measure => simp [intOf]; omega
          · obtain rfl : k = 7 := by omega
            go_wp2_with fail
            go_ret
            exact ⟨rfl, HB.out⟩
      · have c1 : ¬ (i : Int) < (n : Int) := by omega
        have HRR := Lib.hid (show (deRow xs i).length ≤ 4 by rw [HRL.out]; omega)
        have HRD := Lib.hid (deRow_dem xs i)
        obtain ⟨R, hRR⟩ : ∃ R, R = deRow xs i := ⟨_, rfl⟩
        rw [← hRR] at HL HR HRR HRD
        obtain ⟨ia, ic, hrs⟩ := own_shape HR.out
        obtain ⟨rl, hrl⟩ : ∃ rl, rl = R.length := ⟨_, rfl⟩
        have HRLN := Lib.hid hrl
        rw [← hrl] at hrs HRR
        subst hrs
        have hrl4 : rl ≤ 4 := HRR.out
        have HLX := Lib.hid (show LocOff wr b0 lo (deB p R 0) (6 * ((0 : Nat) : Int)) (ofRow (.slice ia rl ic)) from HL.out)
        clear hRR hrl HL HNB HRL
        go_wp2_with fail
        go_loopw [13] (fun kv wv => ∃ k : Nat, 1 ≤ k ∧ k ≤ 7 ∧ kv = .int .i64 k ∧ Hid (LocOff wv b0 lo (deB p R (k - 1)) (6 * ((k - 1 : Nat) : Int)) (ofRow (.slice ia rl ic))) ∧ Hid (IntRow wv w3.heap.size (.slice ia rl ic) R) ∧ Hid (Below w.heap.size w wv)) (fun kv _ => 7 - (intOf kv).toNat)
        case atStart => exact ⟨1, by omega, by omega, rfl, HLX, HR, HB⟩
        case round =>
          clear HLX HR HB
          obtain ⟨k, hk1, hk7, rfl, HL, HR, HB⟩ := hrel
          have HNB := Lib.hid (show ∀ q, ofRow (.slice ia rl ic) q → q < wr.heap.size from fun q hq => (HR.out.lt q hq).2)
          by_cases hle : k ≤ 6
          · have c5 : (k : Int) ≤ 6 := by omega
            obtain ⟨j, hj⟩ : ∃ j, j = k - 1 := ⟨_, rfl⟩
            have HPR := Lib.hid (de_prod HP0.out.1 HP0.out.2 k (by omega))
            have HBG := Lib.hid (de_begin HP0.out.1 HP0.out.2 HRD.out (by rw [← HRLN.out]; exact hrl4) j (by omega))
            obtain ⟨nw, hnw⟩ : ∃ nw : Int, nw = (k : Int) * (p : Int) := ⟨_, rfl⟩
            have hmw : IntKind.i64.wrap ((k : Int) * (p : Int)) = nw := by rw [IntKind.wrap_i64, hnw]; have := HPR.out; omega
            have HNW := Lib.hid (show 0 ≤ nw ∧ nw ≤ 100 by rw [hnw]; have := HPR.out; omega)
            have HBG := Lib.hid (show begS (deB p R j) nw = deB p R k ∧ begE (deB p R j) nw = (if j = 0 then [] else [⟨3, 0, 0, 0⟩]) ++ [⟨1, 0, 0, (R.drop j).headD 2⟩] by have h := HBG.out; rw [show j + 1 = k by omega] at h; rw [hnw]; exact h)
            rw [← hj] at HL
            have HJK := Lib.hid (show j + 1 = k by omega)
            obtain ⟨wt, hwt⟩ : ∃ wt, wt = (R.drop j).headD 2 := ⟨_, rfl⟩
            rw [← hwt] at HBG
            have HWT := Lib.hid hwt
            clear hnw hj hwt HPR
            go_wp2_with fail
            refine (begin_off b0 lo _ (6 * (j : Int)) nw _ _ HL.out (by have := HJK.out; omega) (clockYes HNW.out.1 (by have := HNW.out; omega)) HNB.out).mono ?_
            rintro e w4 ⟨ra, rn, rc, rfl, hl, hr, hk, hkb⟩
            rw [HBG.out.1] at hl
            rw [HBG.out.2] at hr
            have HL4 := Lib.hid (show LocOff w4 b0 lo (deB p R k) (6 * ((k : Nat) : Int)) (ofRow (.slice ia rl ic)) by rw [show (6 * ((k : Nat) : Int)) = 6 * (j : Int) + 6 by have := HJK.out; omega]; exact hl)
            have HR4 := Lib.hid (HR.out.far hkb)
            have HB4 := Lib.hid (HB.out.trans (hk.mono HLO.out))
            have HE := Lib.hid hr
            clear hl hr hk hkb
            by_cases hj0 : j = 0
            · rw [if_pos hj0] at HE
              clear hj0
              obtain rfl : rn = 1 := by obtain ⟨_, _, q⟩ := own_shape HE.out; injection q
              obtain ⟨eq, eo, ee, hx0⟩ : ∃ q o, Value.slice ra 1 rc = .slice (some ⟨q, o, none⟩) 1 rc ∧ EventAt w4 q o ⟨1, 0, 0, wt⟩ := by
                obtain ⟨a, c, e, -, -, -, hq⟩ := EvRow.events HE.out (by simp)
                obtain ⟨q, o, e2, hq2⟩ := hq (by simp)
                injection e with e _ _
                refine ⟨q, o, by rw [e, e2], ?_⟩
                have := hq2 0 (by simp)
                simpa using this
              injection ee with ee _ _
              subst ee
              obtain ⟨y0, y1, y2, y3⟩ := hx0
              unfold IntAt at y0 y1 y2 y3
              (try simp only [Nat.add_assoc, Nat.reduceAdd] at y1 y2 y3)
              by_cases hkr : k ≤ rl
              · have c6 : (k : Int) ≤ (rl : Int) := by omega
                have hjr : j < R.length := by rw [← HRLN.out]; have := HJK.out; omega
                obtain ⟨rq, roff, re, hz0⟩ : ∃ q off, Value.slice ia rl ic = .slice (some ⟨q, off, none⟩) rl ic ∧ IntAt w4 q (off + j) wt := by
                  obtain ⟨b, off, cap, e, hc⟩ := (HR4.out.ints (by rw [← HRLN.out]; omega)).get hjr
                  injection e with e _ e3
                  refine ⟨b, off, by rw [e], ?_⟩
                  have e4 : wt = R[j] := by
                    rw [HWT.out, List.drop_eq_getElem_cons hjr]
                    rfl
                  rw [e4]
                  exact hc
                injection re with re _ _
                subst re
                unfold IntAt at hz0
                have htn : ((k : Int) - 1).toNat = j := by have := HJK.out; omega
                have c7 : (0 : Int) ≤ (k : Int) - 1 := by omega
                have c8 : (k : Int) - 1 < (rl : Int) := by omega
                go_wp2_with (first | (go_at_call 12; refine (num_any _ _).mono ?_; rintro e w' ⟨rfl, hw⟩; subst w') | fail)
                go_roundw
                case rel => exact ⟨k + 1, by omega, by omega, by go_num, HL4, HR4, HB4⟩
                case measure => simp [intOf]; omega
              · have c6 : ¬ (k : Int) ≤ (rl : Int) := by omega
                have hwt2 : wt = 2 := by
                  rw [HWT.out, List.drop_eq_nil_of_le (by rw [← HRLN.out]; have := HJK.out; omega)]
                  rfl
                subst hwt2
                go_wp2_with (first | (go_at_call 12; refine (num_any _ _).mono ?_; rintro e w' ⟨rfl, hw⟩; subst w') | fail)
                go_roundw
                case rel => exact ⟨k + 1, by omega, by omega, by go_num, HL4, HR4, HB4⟩
                case measure => simp [intOf]; omega
            · rw [if_neg hj0] at HE
              obtain rfl : rn = 2 := by obtain ⟨_, _, q⟩ := own_shape HE.out; injection q
              obtain ⟨eq, eo, ee, hx0⟩ : ∃ q o, Value.slice ra 2 rc = .slice (some ⟨q, o, none⟩) 2 rc ∧ EventAt w4 q (o + 4) ⟨1, 0, 0, wt⟩ := by
                obtain ⟨a, c, e, -, -, -, hq⟩ := EvRow.events HE.out (by simp)
                obtain ⟨q, o, e2, hq2⟩ := hq (by simp)
                injection e with e _ _
                refine ⟨q, o, by rw [e, e2], ?_⟩
                have := hq2 1 (by simp)
                simpa using this
              injection ee with ee _ _
              subst ee
              obtain ⟨y0, y1, y2, y3⟩ := hx0
              unfold IntAt at y0 y1 y2 y3
              (try simp only [Nat.add_assoc, Nat.reduceAdd] at y1 y2 y3)
              by_cases hkr : k ≤ rl
              · have c6 : (k : Int) ≤ (rl : Int) := by omega
                have hjr : j < R.length := by rw [← HRLN.out]; have := HJK.out; omega
                obtain ⟨rq, roff, re, hz0⟩ : ∃ q off, Value.slice ia rl ic = .slice (some ⟨q, off, none⟩) rl ic ∧ IntAt w4 q (off + j) wt := by
                  obtain ⟨b, off, cap, e, hc⟩ := (HR4.out.ints (by rw [← HRLN.out]; omega)).get hjr
                  injection e with e _ e3
                  refine ⟨b, off, by rw [e], ?_⟩
                  have e4 : wt = R[j] := by
                    rw [HWT.out, List.drop_eq_getElem_cons hjr]
                    rfl
                  rw [e4]
                  exact hc
                injection re with re _ _
                subst re
                unfold IntAt at hz0
                have htn : ((k : Int) - 1).toNat = j := by have := HJK.out; omega
                have c7 : (0 : Int) ≤ (k : Int) - 1 := by omega
                have c8 : (k : Int) - 1 < (rl : Int) := by omega
                go_wp2_with (first | (go_at_call 12; refine (num_any _ _).mono ?_; rintro e w' ⟨rfl, hw⟩; subst w') | fail)
                go_roundw
                case rel => exact ⟨k + 1, by omega, by omega, by go_num, HL4, HR4, HB4⟩
                case measure => simp [intOf]; omega
              · have c6 : ¬ (k : Int) ≤ (rl : Int) := by omega
                have hwt2 : wt = 2 := by
                  rw [HWT.out, List.drop_eq_nil_of_le (by rw [← HRLN.out]; have := HJK.out; omega)]
                  rfl
                subst hwt2
                go_wp2_with (first | (go_at_call 12; refine (num_any _ _).mono ?_; rintro e w' ⟨rfl, hw⟩; subst w') | fail)
                go_roundw
                case rel => exact ⟨k + 1, by omega, by omega, by go_num, HL4, HR4, HB4⟩
                case measure => simp [intOf]; omega
          · obtain rfl : k = 7 := by omega
            go_wp2_with fail
            go_ret
            exact ⟨rfl, HB.out⟩
end Go.Proofs.Ytbkhnlacabaagaa
