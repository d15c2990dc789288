/- Several texts of this claim as one. -/
import Derived.Test.YtooeeiiiflfckaaGreatSlkB
import Derived.Test.YtooeeiiiflfckaaGreatSlkC
import Derived.Test.YtooeeiiiflfckaaGreatSlkD
import Derived.Test.YtooeeiiiflfckaaGreatVmD
import Derived.Test.YtooeeiiiflfckaaGreatTskA
import Derived.Test.YtooeeiiiflfckaaGreatLibA
/- package slack: may, some of its leaves. -/
set_option linter.unusedVariables false
set_option linter.unusedSimpArgs false
namespace Go.Proofs.YtooeeiiiflfckaaGreat
open Go.RowKit
theorem ledMay_any (g : Nat) (l : Led) (w : World) (x0 : w.cell? ⟨g, 0, none⟩ = some (.int .i64 l.idle)) (x1 : w.cell? ⟨g, 1, none⟩ = some (.int .i64 l.dealt)) (x2 : w.cell? ⟨g, 2, none⟩ = some (.int .i64 l.lost)) (x3 : w.cell? ⟨g, 3, none⟩ = some (.int .i64 l.last)) :
  Calls Tryz.prog 138 #[.pointer (some ⟨g, 0, none⟩)] w fun e w' => e = .returned (.bool (ledMay l)) /\ Below w.heap.size w w' := by
 obtain ⟨xi, xd, xo, xa⟩ := l
 simp only at x0 x1 x2 x3
 have fin : ∀ b : Bool, ledMay ⟨xi, xd, xo, xa⟩ = b -> (Calls Tryz.prog 138 #[.pointer (some ⟨g, 0, none⟩)] w fun e w' => e = .returned (.bool b) /\ ∃ m, w' = w.drewN m) -> Calls Tryz.prog 138 #[.pointer (some ⟨g, 0, none⟩)] w fun e w' => e = .returned (.bool (ledMay ⟨xi, xd, xo, xa⟩)) /\ Below w.heap.size w w' := by
  intro b hb hc
  refine hc.mono ?_
  rintro e w' ⟨rfl, m, rfl⟩
  exact ⟨by rw [hb], below_drewN (Below.refl _ _) _⟩
 cases h0 : countMay xi
 ·exact fin false (by unfold ledMay; simp [h0]) (led_leaf0 g xi xd xo xa w x0 x1 x2 x3 (count_lit h0))
 cases h1 : countMay xd
 ·exact fin false (by unfold ledMay; simp [h1]) (led_leaf1 g xi xd xo xa w x0 x1 x2 x3 (count_lit h0) (count_lit h1))
 cases h2 : countMay xo
 ·exact fin false (by unfold ledMay; simp [h2]) (led_leaf2 g xi xd xo xa w x0 x1 x2 x3 (count_lit h0) (count_lit h1) (count_lit h2))
 have s0 : IntKind.i64.wrap (xd + xo) = xd + xo := by
  have q1 := h1
  have q2 := h2
  unfold countMay at q1 q2
  simp only [decide_eq_true_eq] at q1 q2
  rw [IntKind.wrap_i64]
  omega
 have hl : ledMay ⟨xi, xd, xo, xa⟩ = decide (xd + xo = xi /\ -1 <= xa /\ xa < 8) := by unfold ledMay; rw [h0, h1, h2]; rfl
 by_cases h3 : xd + xo = xi
 rotate_left 1
 ·exact fin false (by rw [hl]; exact decide_eq_false (by omega)) (led_leaf3 g xi xd xo xa w x0 x1 x2 x3 (count_lit h0) (count_lit h1) (count_lit h2) (by simpa using h3) s0)
 by_cases h4 : xa >= -1
 rotate_left 1
 ·exact fin false (by rw [hl]; exact decide_eq_false (by omega)) (led_leaf4 g xi xd xo xa w x0 x1 x2 x3 (count_lit h0) (count_lit h1) (count_lit h2) (by simpa using h3) (decide_eq_false h4) s0)
 by_cases h5 : xa < 8
 rotate_left 1
 ·exact fin false (by rw [hl]; exact decide_eq_false (by omega)) (led_leaf5 g xi xd xo xa w x0 x1 x2 x3 (count_lit h0) (count_lit h1) (count_lit h2) (by simpa using h3) (decide_eq_true h4) (decide_eq_false h5) s0)
 ·exact fin true (by rw [hl]; exact decide_eq_true ⟨h3, h4, h5⟩) (led_leaf6 g xi xd xo xa w x0 x1 x2 x3 (count_lit h0) (count_lit h1) (count_lit h2) (by simpa using h3) (decide_eq_true h4) (decide_eq_true h5) s0)
end Go.Proofs.YtooeeiiiflfckaaGreat
/- package slack: rising, turn, New. -/
namespace Go.Proofs.YtooeeiiiflfckaaGreat
open Go.RowKit
set_option maxRecDepth 100000 in
set_option maxHeartbeats 4000000 in
theorem rising_any (gv : Value) (ps : List Int) (w : World) (hg : IntsV w gv ps) :
  Calls Tryz.prog 139 #[gv] w fun e w' => e = .returned (.bool (risingFrom (-1) ps)) /\ w' = w := by
 obtain ⟨a, cap, rfl, hv1, hv2, hv3, hv4⟩ := hg
 have HV := Lib.hid hv4
 have hl1 : ps.length <= 1000000000000000 := by omega
 obtain ⟨n, hn⟩ : ∃ n, n = ps.length := ⟨_, rfl⟩
 rw [<- hn] at hl1 |-
 have HN := Lib.hid hn
 clear hv1 hv2 hv3 hv4 hn
 go_enter Tryz.func139, Tryz.ntmps139
 go_wp2_with fail
 go_loopw [3, 4, 7] (fun _ _ i wr => ∃ (k : Nat) (q : Int), k <= n /\ i = .int .i64 k /\ wr = w /\ Hid ((k = 0 -> q = -1) /\ (∀ h : k - 1 < ps.length, 0 < k -> q = ps[k - 1])) /\ Hid (risingFrom (-1) ps = risingFrom q (ps.drop k))) (fun _ _ i _ => n - (intOf i).toNat)
 case atStart => exact ⟨0, -1, by omega, rfl, rfl, Lib.hid ⟨fun _ => rfl, fun _ h => absurd h (by omega)⟩, Lib.hid rfl⟩
 case round =>
  obtain ⟨k, q, hk, rfl, rfl, HQ, HD⟩ := hrel
  by_cases hlt : k < n
  ·have hlt' : k < ps.length := by rw [<- HN.out]; exact hlt
   obtain ⟨b, off, rfl, hcell⟩ := HV.out (by intro h; rw [h] at hlt'; simp at hlt')
   have y0 := hcell k hlt'
   unfold IntAt at y0
   rw [Nat.mul_one] at y0
   have hst : risingFrom (-1) ps = (decide (0 <= ps[k] /\ ps[k] < 8 /\ q < ps[k]) && risingFrom ps[k] (ps.drop (k + 1))) := HD.out.trans (by rw [List.drop_eq_getElem_cons hlt']; rfl)
   obtain ⟨x, hx⟩ : ∃ x, x = ps[k] := ⟨_, rfl⟩
   rw [<- hx] at hst y0
   have HS := Lib.hid hst
   have HX := Lib.hid hx
   by_cases h1 : x < 0
   ·have d1 : decide (x < 0) = true := decide_eq_true h1
    have HE := Lib.hid (HS.out.trans (by rw [decide_eq_false (by omega), Bool.false_and]))
    clear hcell hst HX hx hlt' HS h1
    go_wp2_with fail
    go_ret
    exact ⟨ret_bool HE.out.symm, rfl⟩
   have d1 : decide (x < 0) = false := decide_eq_false h1
   by_cases h2 : x >= 8
   ·have d2 : decide (x >= 8) = true := decide_eq_true h2
    have HE := Lib.hid (HS.out.trans (by rw [decide_eq_false (by omega), Bool.false_and]))
    clear hcell hst HX hx hlt' HS h1 h2
    go_wp2_with fail
    go_ret
    exact ⟨ret_bool HE.out.symm, rfl⟩
   have d2 : decide (x >= 8) = false := decide_eq_false h2
   by_cases h3 : k = 0
   ·have hq := HQ.out.1 h3
    have d3 : decide (0 < k) = false := decide_eq_false (by omega)
    have HE := Lib.hid (HS.out.trans (by rw [decide_eq_true ⟨by omega, by omega, by omega⟩, Bool.true_and]))
    have HE2 := Lib.hid (HD.out.symm.trans HE.out)
    have HE3 := Lib.hid HE.out
    clear hcell hst hx HS h1 h2 h3 HE HD hq HQ
    go_wp2_with fail
    go_roundw
    case rel => exact ⟨k + 1, x, by omega, by go_num, trivial, Lib.hid ⟨fun h => absurd h (by omega), fun h _ => HX.out⟩, HE3⟩
    case measure => simp [intOf]; omega
   ·obtain ⟨j, rfl⟩ : ∃ j, k = j + 1 := ⟨k - 1, by omega⟩
    have hj : j < ps.length := by omega
    have y1 := hcell j hj
    unfold IntAt at y1
    rw [Nat.mul_one] at y1
    have hq : q = ps[j] := HQ.out.2 (by omega) (by omega)
    rw [<- hq] at y1
    have d3 : decide (((j : Int) + 1) > 0) = true := decide_eq_true (by omega)
    have s1 : IntKind.i64.wrap ((j : Int) + 1 - 1) = j := by rw [IntKind.wrap_i64]; omega
    by_cases h4 : q >= x
    ·have d4 : decide (q >= x) = true := decide_eq_true h4
     have HE := Lib.hid (HS.out.trans (by rw [decide_eq_false (by omega), Bool.false_and]))
     clear hcell hst HX hx hlt' HS h1 h2 h4 hq HQ HD
     go_wp2_with fail
     go_ret
     exact ⟨ret_bool HE.out.symm, rfl⟩
    ·have d4 : decide (q >= x) = false := decide_eq_false h4
     have HE := Lib.hid (HS.out.trans (by rw [decide_eq_true ⟨by omega, by omega, by omega⟩, Bool.true_and]))
     clear hcell hst hx HS h1 h2 h4 hq HQ HD
     go_wp2_with fail
     go_roundw
     case rel => exact ⟨j + 1 + 1, x, by omega, by go_num, trivial, Lib.hid ⟨fun h => absurd h (by omega), fun h _ => HX.out⟩, HE⟩
     case measure => simp [intOf]; omega
  ·have HE := Lib.hid (HD.out.trans (by rw [List.drop_of_length_le (by rw [<- HN.out]; omega)] : risingFrom q (ps.drop k) = risingFrom q []))
   clear HD HQ
   go_wp2_with fail
   go_ret
   exact ⟨ret_bool HE.out.symm, rfl⟩
theorem find_step (last : Int) (ps : List Int) (k : Nat) (h : k < ps.length) : (ps.drop k).find? (fun p => decide (last < p)) = if last < ps[k] then some ps[k] else (ps.drop (k + 1)).find? (fun p => decide (last < p)) := by
 rw [List.drop_eq_getElem_cons h, List.find?_cons]
 by_cases e : last < ps[k]
 ·simp [e]
 ·simp [e]
set_option maxRecDepth 100000 in
set_option maxHeartbeats 4000000 in
theorem turn_any (last : Int) (gv : Value) (ps : List Int) (w : World) (hg : IntsV w gv ps) :
  Calls Tryz.prog 140 #[.int .i64 last, gv] w fun e w' => e = .returned (.int .i64 (turnOf last ps)) /\ w' = w := by
 obtain ⟨a, cap, rfl, hv1, hv2, hv3, hv4⟩ := hg
 have HV := Lib.hid hv4
 have hl1 : ps.length <= 1000000000000000 := by omega
 obtain ⟨n, hn⟩ : ∃ n, n = ps.length := ⟨_, rfl⟩
 rw [<- hn] at hl1 |-
 have HN := Lib.hid hn
 clear hv1 hv2 hv3 hv4 hn
 go_enter Tryz.func140, Tryz.ntmps140
 go_wp2_with fail
 go_loopw [6, 9] (fun _ i wr => ∃ (k : Nat), k <= n /\ i = .int .i64 k /\ wr = w /\ Hid (ps.find? (fun p => decide (last < p)) = (ps.drop k).find? (fun p => decide (last < p)))) (fun _ i _ => n - (intOf i).toNat)
 case atStart => exact ⟨0, by omega, rfl, rfl, Lib.hid rfl⟩
 case round =>
  obtain ⟨k, hk, rfl, rfl, HD⟩ := hrel
  by_cases hlt : k < n
  ·have hlt' : k < ps.length := by rw [<- HN.out]; exact hlt
   obtain ⟨b, off, rfl, hcell⟩ := HV.out (by intro h; rw [h] at hlt'; simp at hlt')
   have y0 := hcell k hlt'
   unfold IntAt at y0
   rw [Nat.mul_one] at y0
   have hst := HD.out.trans (find_step last ps k hlt')
   obtain ⟨x, hx⟩ : ∃ x, x = ps[k] := ⟨_, rfl⟩
   rw [<- hx] at hst y0
   by_cases h1 : x > last
   ·have d1 : decide (x > last) = true := decide_eq_true h1
    have HE : Hid (turnOf last ps = x) := Lib.hid (by unfold turnOf; rw [hst, if_pos h1]; rfl)
    clear hcell hst hx hlt' h1 HD
    go_wp2_with fail
    go_ret
    exact ⟨ret_int HE.out.symm, rfl⟩
   ·have d1 : decide (x > last) = false := decide_eq_false h1
    have HE := Lib.hid (hst.trans (if_neg (by omega)))
    clear hcell hst hx h1 HD
    go_wp2_with fail
    go_roundw
    case rel => exact ⟨k + 1, by omega, by go_num, trivial, HE⟩
    case measure => simp [intOf]; omega
  ·have hno := HD.out.trans (by rw [List.drop_of_length_le (by rw [<- HN.out]; omega)]; rfl : (ps.drop k).find? (fun p => decide (last < p)) = none)
   by_cases h0 : n = 0
   ·have hps : ps = [] := List.length_eq_zero_iff.1 (by rw [<- HN.out]; exact h0)
    have HE : Hid (turnOf last ps = -1) := Lib.hid (by unfold turnOf; rw [hno, hps]; rfl)
    have d2 : decide (0 < n) = false := decide_eq_false (by omega)
    clear hno hps h0 HD
    go_wp2_with fail
    go_ret
    exact ⟨ret_int HE.out.symm, rfl⟩
   ·have d2 : decide ((n : Int) > 0) = true := decide_eq_true (by omega)
    have h0' : 0 < ps.length := by rw [<- HN.out]; omega
    have c0 : (0 : Int) < (n : Int) := by omega
    obtain ⟨b, off, rfl, hcell⟩ := HV.out (by intro h; rw [h] at h0'; simp at h0')
    have y0 := hcell 0 h0'
    unfold IntAt at y0
    simp only [Nat.zero_mul, Nat.add_zero] at y0
    have HE : Hid (turnOf last ps = ps[0]) := Lib.hid (by
     unfold turnOf
     rw [hno]
     cases ps with
     | nil => simp at h0'
     | cons p r => rfl)
    clear hno h0 HD hcell
    go_wp2_with fail
    go_ret
    exact ⟨ret_int HE.out.symm, rfl⟩
end Go.Proofs.YtooeeiiiflfckaaGreat
/- package slack: Deal (printed by gendeal.py). -/
namespace Go.Proofs.YtooeeiiiflfckaaGreat
open Go.RowKit
def ledV (l : Led) : Value := .agg #[.int .i64 l.idle, .int .i64 l.dealt, .int .i64 l.lost, .int .i64 l.last]
set_option maxRecDepth 100000 in
set_option maxHeartbeats 8000000 in
theorem deal_any (l : Led) (high : Bool) (gv : Value) (ps : List Int) (w : World) (hg : IntsV w gv ps) :
  Calls Tryz.prog 110 #[ledV l, .bool high, gv] w fun e w' => ∃ er, e = .returned (.tuple #[ledV (dealL l high ps).1, .int .i64 (dealL l high ps).2, .int .i64 er]) /\ Below w.heap.size w w' := by
 obtain ⟨xi, xd, xo, xa⟩ := l
 obtain ⟨ra, rk, hgv⟩ : ∃ ra rk, gv = .slice ra ps.length rk := by obtain ⟨q1, q2, e, -⟩ := hg; exact ⟨q1, q2, e⟩
 obtain ⟨n, hn⟩ : ∃ n, n = ps.length := ⟨_, rfl⟩
 rw [<- hn] at hgv
 subst hgv
 obtain ⟨R, hR⟩ : ∃ R, R = dealL ⟨xi, xd, xo, xa⟩ high ps := ⟨_, rfl⟩
 rw [<- hR]
 have HRR := Lib.hid hR
 have HG := Lib.hid hg
 clear hR hg hn
 unfold ledV
 simp only
 obtain ⟨wa, ga, hw_wa, hg_ga, hb_wa, hk_ga, hs_wa⟩ := alloc_all w (.cells #[.int .i64 xi, .int .i64 xd, .int .i64 xo, .int .i64 xa] 63)
 obtain ⟨wb, gb, hw_wb, hg_gb, hb_wb, hk_gb, hs_wb⟩ := alloc_all wa (.cells #[.int .i64 0, .int .i64 0, .int .i64 0, .int .i64 0] 63)
 have hka := keep_at hk_ga hb_wb
 have x0 := BlockIs.of hka 0 (.int .i64 xi) rfl
 have x1 := BlockIs.of hka 1 (.int .i64 xd) rfl
 have x2 := BlockIs.of hka 2 (.int .i64 xo) rfl
 have x3 := BlockIs.of hka 3 (.int .i64 xa) rfl
 have HB := Lib.hid (bthen hb_wa hb_wb)
 have HKA := Lib.hid hka
 have HKB := Lib.hid hk_gb
 have HLT := Lib.hid (show w.heap.size <= ga /\ ga < gb /\ gb < wb.heap.size by omega)
 clear hka hk_ga hk_gb hb_wa hb_wb
 go_enter Tryz.func110, Tryz.ntmps110
 go_wp2_with fail
 rw [<- hw_wa, <- hw_wb]
 (try rw [<- hs_wa])
 (try rw [<- hg_gb])
 (try rw [<- hg_ga])
 clear hw_wa hw_wb hg_ga hg_gb hs_wa hs_wb
 refine (ledMay_any ga ⟨xi, xd, xo, xa⟩ _ x0 x1 x2 x3).mono ?_
 rintro e w1 ⟨rfl, hb1⟩
 have hka1 := keep_at HKA.out hb1
 have HKA1 := Lib.hid hka1
 have HKB1 := Lib.hid (keep_at HKB.out hb1)
 have HB1 := Lib.hid (bthen HB.out hb1)
 have HG1 := Lib.hid (HG.out.ext (Ext.below (bthen HB.out hb1)))
 clear x0 x1 x2 x3
 have x0 := BlockIs.of hka1 0 (.int .i64 xi) rfl
 have x1 := BlockIs.of hka1 1 (.int .i64 xd) rfl
 have x2 := BlockIs.of hka1 2 (.int .i64 xo) rfl
 have x3 := BlockIs.of hka1 3 (.int .i64 xa) rfl
 have fa := thaw hka1
 have HLT : Hid (w.heap.size <= ga /\ ga < gb /\ gb < w1.heap.size) := Lib.hid (by have := HLT.out; have := hb1.size; omega)
 have n1 : ¬ ga = gb := by have := HLT.out; omega
 have n2 : ¬ gb = ga := by have := HLT.out; omega
 clear hka1 hb1 HKA HKB HB HG
 by_cases hm : ledMay ⟨xi, xd, xo, xa⟩ = true
 ·rw [hm]
  have HM := Lib.hid hm
  have HLM : Hid (0 <= xi /\ xi <= 1099511627776 /\ 0 <= xd /\ xd <= 1099511627776 /\ 0 <= xo /\ xo <= 1099511627776) := Lib.hid (by
   have := HM.out
   unfold ledMay countMay at this
   simp only [Bool.and_eq_true, decide_eq_true_eq] at this
   omega)
  clear hm
  by_cases hc : xi = 1099511627776
  ·have d1 : (xi == 1099511627776) = true := by simpa using hc
   have HC := Lib.hid hc
   clear hc
   have HZ : Hid (R = (⟨0, 0, 0, 0⟩, 0)) := Lib.hid (by rw [HRR.out]; unfold dealL; rw [if_pos (by rw [HC.out]; simp)])
   have hkx := HKB1.out
   obtain ⟨wz, hw_wz⟩ : ∃ wz, wz = put4 w1 gb (.int .i64 0) (.int .i64 0) (.int .i64 0) (.int .i64 0) := ⟨_, rfl⟩
   have hk_wz := put4_at hkx (.int .i64 0) (.int .i64 0) (.int .i64 0) (.int .i64 0)
   have hg_wz := put4_grown w1 gb (.int .i64 0) (.int .i64 0) (.int .i64 0) (.int .i64 0)
   rw [<- hw_wz] at hk_wz hg_wz
   unfold put4 at hw_wz
   have o_wz_0 := BlockIs.of hkx 0 _ rfl
   have o_wz_1 := BlockIs.of hkx 1 _ rfl
   have o_wz_2 := BlockIs.of hkx 2 _ rfl
   have o_wz_3 := BlockIs.of hkx 3 _ rfl
   have f_wz := thaw hkx
   have e_wz_0 := BlockIs.of hk_wz 0 _ rfl
   have e_wz_1 := BlockIs.of hk_wz 1 _ rfl
   have e_wz_2 := BlockIs.of hk_wz 2 _ rfl
   have e_wz_3 := BlockIs.of hk_wz 3 _ rfl
   have HBZ := Lib.hid (bput HB1.out hg_wz (by have := HLT.out; omega) (Nat.le_refl _))
   clear hkx hk_wz hg_wz
   go_wp2_with (first | (rw [<- hw_wz]; clear hw_wz) | fail)
   refine bodyPost_ret (v := .tuple #[.agg #[.int .i64 0, .int .i64 0, .int .i64 0, .int .i64 0], .int .i64 0, .int .i64 1800]) (by simp [results, Tryz.results110, go_sem, e_wz_0, e_wz_1, e_wz_2, e_wz_3]) rfl ⟨1800, by rw [HZ.out], HBZ.out⟩
  have d1 : (xi == 1099511627776) = false := by simpa using hc
  have HC := Lib.hid hc
  clear hc
  go_wp2_with fail
  refine (rising_any _ ps _ HG1.out).mono ?_
  rintro e w' ⟨rfl, hww⟩
  subst w'
  by_cases hr : risingFrom (-1) ps = true
  ·rw [hr]
   have HR := Lib.hid hr
   clear hr
   have HRW : Hid (R = (let who := turnOf xa ps
    let l1 : Led := if 0 <= who then ⟨xi, xd, xo, who⟩ else ⟨xi, xd, xo, xa⟩
    if high = true /\ 0 <= who then ({ l1 with idle := l1.idle + 1, dealt := l1.dealt + 1 }, who)
    else if high = true then ({ l1 with idle := l1.idle + 1, lost := l1.lost + 1 }, who)
    else (l1, who))) := Lib.hid (by rw [HRR.out]; unfold dealL; rw [HM.out, HR.out, if_neg (by simp [HC.out])])
   clear HRR
   go_wp2_with fail
   refine (turn_any xa _ ps _ HG1.out).mono ?_
   rintro e w' ⟨rfl, hww⟩
   subst w'
   obtain ⟨wh, hwh⟩ : ∃ wh, wh = turnOf xa ps := ⟨_, rfl⟩
   rw [<- hwh] at HRW |-
   clear hwh
   by_cases h0 : wh >= 0
   ·have d2 : decide (wh >= 0) = true := decide_eq_true h0
    have HW := Lib.hid (show 0 <= wh from h0)
    clear h0
    cases high
    ·have HZ : Hid (R = (⟨xi, xd, xo, wh⟩, wh)) := Lib.hid (by rw [HRW.out]; simp [HW.out])
     obtain ⟨wd, hw_wd⟩ : ∃ wd, wd = (w1.setCell ⟨ga, 3, none⟩ (.int .i64 wh)) := ⟨_, rfl⟩
     have hkd : wd.heap[ga]? = some (.cells #[.int .i64 xi, .int .i64 xd, .int .i64 xo, .int .i64 wh] 63 (0, 0)) := by rw [hw_wd]; exact blk_set (HKA1.out) 3 (.int .i64 wh)
     have hgd : w1.grownBy wd (some ga) := by rw [hw_wd]; exact set_grown _ _ _ _
     have hkx : wd.heap[gb]? = some (.cells #[.int .i64 0, .int .i64 0, .int .i64 0, .int .i64 0] 63 (0, 0)) := (hgd.block _ (lt_of_block HKB1.out) (fun q => by injection q with q; have := HLT.out; omega)).trans HKB1.out
     have HBD := Lib.hid (bput HB1.out hgd (by have := HLT.out; omega) (Nat.le_refl _))
     have v0 := BlockIs.of hkd 0 (.int .i64 xi) rfl
     have v1 := BlockIs.of hkd 1 (.int .i64 xd) rfl
     have v2 := BlockIs.of hkd 2 (.int .i64 xo) rfl
     have v3 := BlockIs.of hkd 3 (.int .i64 wh) rfl
     obtain ⟨wz, hw_wz⟩ : ∃ wz, wz = put4 wd gb (.int .i64 xi) (.int .i64 xd) (.int .i64 xo) (.int .i64 wh) := ⟨_, rfl⟩
     have hk_wz := put4_at hkx (.int .i64 xi) (.int .i64 xd) (.int .i64 xo) (.int .i64 wh)
     have hg_wz := put4_grown wd gb (.int .i64 xi) (.int .i64 xd) (.int .i64 xo) (.int .i64 wh)
     rw [<- hw_wz] at hk_wz hg_wz
     unfold put4 at hw_wz
     have o_wz_0 := BlockIs.of hkx 0 _ rfl
     have o_wz_1 := BlockIs.of hkx 1 _ rfl
     have o_wz_2 := BlockIs.of hkx 2 _ rfl
     have o_wz_3 := BlockIs.of hkx 3 _ rfl
     have f_wz := thaw hkx
     have e_wz_0 := BlockIs.of hk_wz 0 _ rfl
     have e_wz_1 := BlockIs.of hk_wz 1 _ rfl
     have e_wz_2 := BlockIs.of hk_wz 2 _ rfl
     have e_wz_3 := BlockIs.of hk_wz 3 _ rfl
     have HBZ := Lib.hid (bput HBD.out hg_wz (by have := HLT.out; omega) (Nat.le_refl _))
     clear hkx hk_wz hg_wz hkd hgd
     go_wp2_with (first | (rw [<- hw_wd]; clear hw_wd) | (rw [<- hw_wz]; clear hw_wz) | fail)
     refine bodyPost_ret (v := .tuple #[.agg #[.int .i64 xi, .int .i64 xd, .int .i64 xo, .int .i64 wh], .int .i64 wh, .int .i64 0]) (by simp [results, Tryz.results110, go_sem, e_wz_0, e_wz_1, e_wz_2, e_wz_3]) rfl ⟨0, by rw [HZ.out], HBZ.out⟩
    ·have HZ : Hid (R = (⟨xi + 1, xd + 1, xo, wh⟩, wh)) := Lib.hid (by rw [HRW.out]; simp [HW.out])
     have s1 : IntKind.i64.wrap (xi + 1) = xi + 1 := by rw [IntKind.wrap_i64]; have := HLM.out; omega
     have s2 : IntKind.i64.wrap (xd + 1) = xd + 1 := by rw [IntKind.wrap_i64]; have := HLM.out; omega
     have s3 : IntKind.i64.wrap (xo + 1) = xo + 1 := by rw [IntKind.wrap_i64]; have := HLM.out; omega
     obtain ⟨wd, hw_wd⟩ : ∃ wd, wd = (((w1.setCell ⟨ga, 3, none⟩ (.int .i64 wh)).setCell ⟨ga, 0, none⟩ (.int .i64 (xi + 1))).setCell ⟨ga, 1, none⟩ (.int .i64 (xd + 1))) := ⟨_, rfl⟩
     have hkd : wd.heap[ga]? = some (.cells #[.int .i64 (xi + 1), .int .i64 (xd + 1), .int .i64 xo, .int .i64 wh] 63 (0, 0)) := by rw [hw_wd]; exact blk_set (blk_set (blk_set (HKA1.out) 3 (.int .i64 wh)) 0 (.int .i64 (xi + 1))) 1 (.int .i64 (xd + 1))
     have hgd : w1.grownBy wd (some ga) := by rw [hw_wd]; exact grown_trans (grown_trans (set_grown _ _ _ _) (set_grown _ _ _ _)) (set_grown _ _ _ _)
     have hkx : wd.heap[gb]? = some (.cells #[.int .i64 0, .int .i64 0, .int .i64 0, .int .i64 0] 63 (0, 0)) := (hgd.block _ (lt_of_block HKB1.out) (fun q => by injection q with q; have := HLT.out; omega)).trans HKB1.out
     have HBD := Lib.hid (bput HB1.out hgd (by have := HLT.out; omega) (Nat.le_refl _))
     have v0 := BlockIs.of hkd 0 (.int .i64 (xi + 1)) rfl
     have v1 := BlockIs.of hkd 1 (.int .i64 (xd + 1)) rfl
     have v2 := BlockIs.of hkd 2 (.int .i64 xo) rfl
     have v3 := BlockIs.of hkd 3 (.int .i64 wh) rfl
     obtain ⟨wz, hw_wz⟩ : ∃ wz, wz = put4 wd gb (.int .i64 (xi + 1)) (.int .i64 (xd + 1)) (.int .i64 xo) (.int .i64 wh) := ⟨_, rfl⟩
     have hk_wz := put4_at hkx (.int .i64 (xi + 1)) (.int .i64 (xd + 1)) (.int .i64 xo) (.int .i64 wh)
     have hg_wz := put4_grown wd gb (.int .i64 (xi + 1)) (.int .i64 (xd + 1)) (.int .i64 xo) (.int .i64 wh)
     rw [<- hw_wz] at hk_wz hg_wz
     unfold put4 at hw_wz
     have o_wz_0 := BlockIs.of hkx 0 _ rfl
     have o_wz_1 := BlockIs.of hkx 1 _ rfl
     have o_wz_2 := BlockIs.of hkx 2 _ rfl
     have o_wz_3 := BlockIs.of hkx 3 _ rfl
     have f_wz := thaw hkx
     have e_wz_0 := BlockIs.of hk_wz 0 _ rfl
     have e_wz_1 := BlockIs.of hk_wz 1 _ rfl
     have e_wz_2 := BlockIs.of hk_wz 2 _ rfl
     have e_wz_3 := BlockIs.of hk_wz 3 _ rfl
     have HBZ := Lib.hid (bput HBD.out hg_wz (by have := HLT.out; omega) (Nat.le_refl _))
     clear hkx hk_wz hg_wz hkd hgd
     go_wp2_with (first | (rw [<- hw_wd]; clear hw_wd) | (rw [<- hw_wz]; clear hw_wz) | fail)
     refine bodyPost_ret (v := .tuple #[.agg #[.int .i64 (xi + 1), .int .i64 (xd + 1), .int .i64 xo, .int .i64 wh], .int .i64 wh, .int .i64 0]) (by simp [results, Tryz.results110, go_sem, e_wz_0, e_wz_1, e_wz_2, e_wz_3]) rfl ⟨0, by rw [HZ.out], HBZ.out⟩
   ·have d2 : decide (wh >= 0) = false := decide_eq_false h0
    have HW := Lib.hid (show ¬ 0 <= wh from h0)
    clear h0
    cases high
    ·have HZ : Hid (R = (⟨xi, xd, xo, xa⟩, wh)) := Lib.hid (by rw [HRW.out]; simp [HW.out])
     have hkx := HKB1.out
     have HBD := Lib.hid HB1.out
     obtain ⟨wz, hw_wz⟩ : ∃ wz, wz = put4 w1 gb (.int .i64 xi) (.int .i64 xd) (.int .i64 xo) (.int .i64 xa) := ⟨_, rfl⟩
     have hk_wz := put4_at hkx (.int .i64 xi) (.int .i64 xd) (.int .i64 xo) (.int .i64 xa)
     have hg_wz := put4_grown w1 gb (.int .i64 xi) (.int .i64 xd) (.int .i64 xo) (.int .i64 xa)
     rw [<- hw_wz] at hk_wz hg_wz
     unfold put4 at hw_wz
     have o_wz_0 := BlockIs.of hkx 0 _ rfl
     have o_wz_1 := BlockIs.of hkx 1 _ rfl
     have o_wz_2 := BlockIs.of hkx 2 _ rfl
     have o_wz_3 := BlockIs.of hkx 3 _ rfl
     have f_wz := thaw hkx
     have e_wz_0 := BlockIs.of hk_wz 0 _ rfl
     have e_wz_1 := BlockIs.of hk_wz 1 _ rfl
     have e_wz_2 := BlockIs.of hk_wz 2 _ rfl
     have e_wz_3 := BlockIs.of hk_wz 3 _ rfl
     have HBZ := Lib.hid (bput HBD.out hg_wz (by have := HLT.out; omega) (Nat.le_refl _))
     clear hkx hk_wz hg_wz
     go_wp2_with (first | (rw [<- hw_wz]; clear hw_wz) | fail)
     refine bodyPost_ret (v := .tuple #[.agg #[.int .i64 xi, .int .i64 xd, .int .i64 xo, .int .i64 xa], .int .i64 wh, .int .i64 0]) (by simp [results, Tryz.results110, go_sem, e_wz_0, e_wz_1, e_wz_2, e_wz_3]) rfl ⟨0, by rw [HZ.out], HBZ.out⟩
    ·have HZ : Hid (R = (⟨xi + 1, xd, xo + 1, xa⟩, wh)) := Lib.hid (by rw [HRW.out]; simp [HW.out])
     have s1 : IntKind.i64.wrap (xi + 1) = xi + 1 := by rw [IntKind.wrap_i64]; have := HLM.out; omega
     have s2 : IntKind.i64.wrap (xd + 1) = xd + 1 := by rw [IntKind.wrap_i64]; have := HLM.out; omega
     have s3 : IntKind.i64.wrap (xo + 1) = xo + 1 := by rw [IntKind.wrap_i64]; have := HLM.out; omega
     obtain ⟨wd, hw_wd⟩ : ∃ wd, wd = ((w1.setCell ⟨ga, 0, none⟩ (.int .i64 (xi + 1))).setCell ⟨ga, 2, none⟩ (.int .i64 (xo + 1))) := ⟨_, rfl⟩
     have hkd : wd.heap[ga]? = some (.cells #[.int .i64 (xi + 1), .int .i64 xd, .int .i64 (xo + 1), .int .i64 xa] 63 (0, 0)) := by rw [hw_wd]; exact blk_set (blk_set (HKA1.out) 0 (.int .i64 (xi + 1))) 2 (.int .i64 (xo + 1))
     have hgd : w1.grownBy wd (some ga) := by rw [hw_wd]; exact grown_trans (set_grown _ _ _ _) (set_grown _ _ _ _)
     have hkx : wd.heap[gb]? = some (.cells #[.int .i64 0, .int .i64 0, .int .i64 0, .int .i64 0] 63 (0, 0)) := (hgd.block _ (lt_of_block HKB1.out) (fun q => by injection q with q; have := HLT.out; omega)).trans HKB1.out
     have HBD := Lib.hid (bput HB1.out hgd (by have := HLT.out; omega) (Nat.le_refl _))
     have v0 := BlockIs.of hkd 0 (.int .i64 (xi + 1)) rfl
     have v1 := BlockIs.of hkd 1 (.int .i64 xd) rfl
     have v2 := BlockIs.of hkd 2 (.int .i64 (xo + 1)) rfl
     have v3 := BlockIs.of hkd 3 (.int .i64 xa) rfl
     obtain ⟨wz, hw_wz⟩ : ∃ wz, wz = put4 wd gb (.int .i64 (xi + 1)) (.int .i64 xd) (.int .i64 (xo + 1)) (.int .i64 xa) := ⟨_, rfl⟩
     have hk_wz := put4_at hkx (.int .i64 (xi + 1)) (.int .i64 xd) (.int .i64 (xo + 1)) (.int .i64 xa)
     have hg_wz := put4_grown wd gb (.int .i64 (xi + 1)) (.int .i64 xd) (.int .i64 (xo + 1)) (.int .i64 xa)
     rw [<- hw_wz] at hk_wz hg_wz
     unfold put4 at hw_wz
     have o_wz_0 := BlockIs.of hkx 0 _ rfl
     have o_wz_1 := BlockIs.of hkx 1 _ rfl
     have o_wz_2 := BlockIs.of hkx 2 _ rfl
     have o_wz_3 := BlockIs.of hkx 3 _ rfl
     have f_wz := thaw hkx
     have e_wz_0 := BlockIs.of hk_wz 0 _ rfl
     have e_wz_1 := BlockIs.of hk_wz 1 _ rfl
     have e_wz_2 := BlockIs.of hk_wz 2 _ rfl
     have e_wz_3 := BlockIs.of hk_wz 3 _ rfl
     have HBZ := Lib.hid (bput HBD.out hg_wz (by have := HLT.out; omega) (Nat.le_refl _))
     clear hkx hk_wz hg_wz hkd hgd
     go_wp2_with (first | (rw [<- hw_wd]; clear hw_wd) | (rw [<- hw_wz]; clear hw_wz) | fail)
     refine bodyPost_ret (v := .tuple #[.agg #[.int .i64 (xi + 1), .int .i64 xd, .int .i64 (xo + 1), .int .i64 xa], .int .i64 wh, .int .i64 0]) (by simp [results, Tryz.results110, go_sem, e_wz_0, e_wz_1, e_wz_2, e_wz_3]) rfl ⟨0, by rw [HZ.out], HBZ.out⟩
  ·have hr : risingFrom (-1) ps = false := by simpa using hr
   rw [hr]
   have HR := Lib.hid hr
   clear hr
   have HZ : Hid (R = (⟨0, 0, 0, 0⟩, 0)) := Lib.hid (by rw [HRR.out]; unfold dealL; rw [if_pos (by rw [HR.out]; simp)])
   have hkx := HKB1.out
   obtain ⟨wz, hw_wz⟩ : ∃ wz, wz = put4 w1 gb (.int .i64 0) (.int .i64 0) (.int .i64 0) (.int .i64 0) := ⟨_, rfl⟩
   have hk_wz := put4_at hkx (.int .i64 0) (.int .i64 0) (.int .i64 0) (.int .i64 0)
   have hg_wz := put4_grown w1 gb (.int .i64 0) (.int .i64 0) (.int .i64 0) (.int .i64 0)
   rw [<- hw_wz] at hk_wz hg_wz
   unfold put4 at hw_wz
   have o_wz_0 := BlockIs.of hkx 0 _ rfl
   have o_wz_1 := BlockIs.of hkx 1 _ rfl
   have o_wz_2 := BlockIs.of hkx 2 _ rfl
   have o_wz_3 := BlockIs.of hkx 3 _ rfl
   have f_wz := thaw hkx
   have e_wz_0 := BlockIs.of hk_wz 0 _ rfl
   have e_wz_1 := BlockIs.of hk_wz 1 _ rfl
   have e_wz_2 := BlockIs.of hk_wz 2 _ rfl
   have e_wz_3 := BlockIs.of hk_wz 3 _ rfl
   have HBZ := Lib.hid (bput HB1.out hg_wz (by have := HLT.out; omega) (Nat.le_refl _))
   clear hkx hk_wz hg_wz
   go_wp2_with (first | (rw [<- hw_wz]; clear hw_wz) | fail)
   refine bodyPost_ret (v := .tuple #[.agg #[.int .i64 0, .int .i64 0, .int .i64 0, .int .i64 0], .int .i64 0, .int .i64 1800]) (by simp [results, Tryz.results110, go_sem, e_wz_0, e_wz_1, e_wz_2, e_wz_3]) rfl ⟨1800, by rw [HZ.out], HBZ.out⟩
 ·have hm : ledMay ⟨xi, xd, xo, xa⟩ = false := by simpa using hm
  rw [hm]
  have HM := Lib.hid hm
  clear hm
  have HZ : Hid (R = (⟨0, 0, 0, 0⟩, 0)) := Lib.hid (by rw [HRR.out]; unfold dealL; rw [if_pos (by rw [HM.out]; rfl)])
  have hkx := HKB1.out
  obtain ⟨wz, hw_wz⟩ : ∃ wz, wz = put4 w1 gb (.int .i64 0) (.int .i64 0) (.int .i64 0) (.int .i64 0) := ⟨_, rfl⟩
  have hk_wz := put4_at hkx (.int .i64 0) (.int .i64 0) (.int .i64 0) (.int .i64 0)
  have hg_wz := put4_grown w1 gb (.int .i64 0) (.int .i64 0) (.int .i64 0) (.int .i64 0)
  rw [<- hw_wz] at hk_wz hg_wz
  unfold put4 at hw_wz
  have o_wz_0 := BlockIs.of hkx 0 _ rfl
  have o_wz_1 := BlockIs.of hkx 1 _ rfl
  have o_wz_2 := BlockIs.of hkx 2 _ rfl
  have o_wz_3 := BlockIs.of hkx 3 _ rfl
  have f_wz := thaw hkx
  have e_wz_0 := BlockIs.of hk_wz 0 _ rfl
  have e_wz_1 := BlockIs.of hk_wz 1 _ rfl
  have e_wz_2 := BlockIs.of hk_wz 2 _ rfl
  have e_wz_3 := BlockIs.of hk_wz 3 _ rfl
  have HBZ := Lib.hid (bput HB1.out hg_wz (by have := HLT.out; omega) (Nat.le_refl _))
  clear hkx hk_wz hg_wz
  go_wp2_with (first | (rw [<- hw_wz]; clear hw_wz) | fail)
  refine bodyPost_ret (v := .tuple #[.agg #[.int .i64 0, .int .i64 0, .int .i64 0, .int .i64 0], .int .i64 0, .int .i64 1800]) (by simp [results, Tryz.results110, go_sem, e_wz_0, e_wz_1, e_wz_2, e_wz_3]) rfl ⟨1800, by rw [HZ.out], HBZ.out⟩
end Go.Proofs.YtooeeiiiflfckaaGreat
