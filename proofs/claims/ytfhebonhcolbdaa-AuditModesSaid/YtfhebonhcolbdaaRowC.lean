/- Rows: their copies and their comparison. -/
import Derived.Test.YtfhebonhcolbdaaRowD
import Derived.Test.YtfhebonhcolbdaaTail
set_option linter.unusedVariables false
set_option linter.unusedSimpArgs false
namespace Go.Proofs.Ytfhebonhcolbdaa
open Go.RowKit

set_option maxRecDepth 100000 in
set_option maxHeartbeats 400000 in
theorem sameEvents_any (v v' : Value) (xs : List Event) (w : World) (hv : EventsV w v xs) (hv' : EventsV w v' xs) :
    Calls Try.prog 32 #[v, v'] w fun e w' => e = .returned (.bool true) ∧ Below w.heap.size w w' := by
  obtain ⟨a, cap, rfl, h2, h3, h4, h5⟩ := hv
  obtain ⟨a', cap', rfl, -, h3', h4', h5'⟩ := hv'
  have H := Lib.hid h5
  have H' := Lib.hid h5'
  have hl : xs.length ≤ 1000000000000000000 := by omega
  clear h5 h5'
  go_enter Try.func32, Try.ntmps32
  go_wp2_with fail
  go_loopw [5] (fun i wr => ∃ k : Nat, k ≤ xs.length ∧ i = .int .i64 k ∧ Below w.heap.size w wr) (fun i _ => xs.length - (intOf i).toNat)
  case atStart => exact ⟨0, by omega, rfl, Below.refl _ _⟩
  case round =>
    obtain ⟨k, hk, rfl, hB⟩ := hrel
    have HB := Lib.hid hB
    clear hB
    by_cases hlt : k < xs.length
    · obtain ⟨b, off, rfl, hc⟩ := H.out (by intro h; rw [h] at hlt; simp at hlt)
      obtain ⟨b', off', rfl, hc'⟩ := H'.out (by intro h; rw [h] at hlt; simp at hlt)
      have q := EventAt.ext (Ext.below HB.out) (hc k hlt)
      have q' := EventAt.ext (Ext.below HB.out) (hc' k hlt)
      obtain ⟨y0, y1, y2, y3⟩ := q
      obtain ⟨q0, q1, q2, q3⟩ := q'
      unfold IntAt at *
      clear hc hc'
      go_wp2_with fail
      go_quiet (fail)
      go_wp2_with fail
      go_roundw
      case rel => exact ⟨k + 1, by omega, by go_num, below_drewN HB.out _⟩
      case measure => simp [intOf]; omega
    · go_wp2_with fail
      go_ret
      exact ⟨rfl, HB.out⟩
set_option maxRecDepth 100000 in
set_option maxHeartbeats 400000 in
theorem sameInts_any (v v' : Value) (xs : List Int) (w : World) (hv : IntsV w v xs) (hv' : IntsV w v' xs) :
    Calls Try.prog 13 #[v, v'] w fun e w' => e = .returned (.bool true) ∧ Below w.heap.size w w' := by
  obtain ⟨a, cap, rfl, h2, h3, h4, h5⟩ := hv
  obtain ⟨a', cap', rfl, -, h3', h4', h5'⟩ := hv'
  have H := Lib.hid h5
  have H' := Lib.hid h5'
  have hl : xs.length ≤ 1000000000000000000 := by omega
  clear h5 h5'
  go_enter Try.func13, Try.ntmps13
  go_wp2_with fail
  go_loopw [5] (fun i wr => ∃ k : Nat, k ≤ xs.length ∧ i = .int .i64 k ∧ Below w.heap.size w wr) (fun i _ => xs.length - (intOf i).toNat)
  case atStart => exact ⟨0, by omega, rfl, Below.refl _ _⟩
  case round =>
    obtain ⟨k, hk, rfl, hB⟩ := hrel
    have HB := Lib.hid hB
    clear hB
    by_cases hlt : k < xs.length
    · obtain ⟨b, off, rfl, hc⟩ := H.out (by intro h; rw [h] at hlt; simp at hlt)
      obtain ⟨b', off', rfl, hc'⟩ := H'.out (by intro h; rw [h] at hlt; simp at hlt)
      have q := IntAt.ext (Ext.below HB.out) (hc k hlt)
      have q' := IntAt.ext (Ext.below HB.out) (hc' k hlt)
      unfold IntAt at q q'
      rw [Nat.mul_one] at q q'
      clear hc hc'
      go_wp2_with fail
      go_quiet (fail)
      go_wp2_with fail
      go_roundw
      case rel => exact ⟨k + 1, by omega, by go_num, below_drewN HB.out _⟩
      case measure => simp [intOf]; omega
    · go_wp2_with fail
      go_ret
      exact ⟨rfl, HB.out⟩
set_option maxRecDepth 100000 in
set_option maxHeartbeats 400000 in
theorem sameRow_any (x : Row) (ev ev' : Value) (w : World) (hx : EventsV w ev x.events) (hx' : EventsV w ev' x.events) :
    Calls Try.prog 26 #[.agg #[.int .i64 x.tick, .int .i64 x.owner, .bool x.dealt, .int .i64 x.mode, ev], .agg #[.int .i64 x.tick, .int .i64 x.owner, .bool x.dealt, .int .i64 x.mode, ev']] w fun e w' => e = .returned (.bool true) ∧ Below w.heap.size w w' := by
  have HX := Lib.hid (And.intro hx hx')
  have HB0 := Lib.hid (bthen (balloc w (.cells #[.int .i64 x.tick, .int .i64 x.owner, .bool x.dealt, .int .i64 x.mode, ev] 45)) (balloc _ (.cells #[.int .i64 x.tick, .int .i64 x.owner, .bool x.dealt, .int .i64 x.mode, ev'] 45)))
  clear hx hx'
  go_enter Try.func26, Try.ntmps26
  go_wp2_with fail
  refine (sameEvents_any _ _ x.events _ (HX.out.1.ext (Ext.below HB0.out)) (HX.out.2.ext (Ext.below HB0.out))).mono ?_
  rintro e w1 ⟨rfl, hb1⟩
  have HB1 := Lib.hid (bthen HB0.out hb1)
  clear hb1
  go_wp2_with fail
  go_ret
  exact ⟨rfl, HB1.out⟩
set_option maxRecDepth 100000 in
set_option maxHeartbeats 800000 in
theorem sameRows_any (v v' : Value) (xs : List Row) (w : World) (hv : RowsV w v xs) (hv' : RowsV w v' xs) :
    Calls Try.prog 14 #[v, v'] w fun e w' => e = .returned (.bool true) ∧ Below w.heap.size w w' := by
  obtain ⟨a, cap, rfl, h2, h3, h4, h5⟩ := hv
  obtain ⟨a', cap', rfl, -, h3', h4', h5'⟩ := hv'
  have H := Lib.hid h5
  have H' := Lib.hid h5'
  have hl : xs.length ≤ 1000000000000000 := by omega
  clear h5 h5'
  go_enter Try.func14, Try.ntmps14
  go_wp2_with fail
  go_loopw [5] (fun i wr => ∃ k : Nat, k ≤ xs.length ∧ i = .int .i64 k ∧ Below w.heap.size w wr) (fun i _ => xs.length - (intOf i).toNat)
  case atStart => exact ⟨0, by omega, rfl, Below.refl _ _⟩
  case round =>
    obtain ⟨k, hk, rfl, hB⟩ := hrel
    have HB := Lib.hid hB
    clear hB
    by_cases hlt : k < xs.length
    · obtain ⟨b, off, rfl, hc⟩ := H.out (by intro h; rw [h] at hlt; simp at hlt)
      obtain ⟨b', off', rfl, hc'⟩ := H'.out (by intro h; rw [h] at hlt; simp at hlt)
      obtain ⟨y0, y1, y2, y3, ev, y4, hev⟩ := RowAt.ext (Ext.below HB.out) (hc k hlt)
      obtain ⟨z0, z1, z2, z3, ev', z4, hev'⟩ := RowAt.ext (Ext.below HB.out) (hc' k hlt)
      unfold IntAt at y0 y1 y3 z0 z1 z3
      unfold BoolAt at y2 z2
      have HX := Lib.hid (And.intro hev hev')
      clear hc hc' hev hev'
      go_wp2_with fail
      refine region_tail 8 (by kernel_rfl) (by kernel_rfl) ?_
      intro wy hy hby
      have hE : Ext wr wy := fun a v h => by rw [cell_of_heap hy]; exact h
      replace y0 := hE _ _ y0
      replace y1 := hE _ _ y1
      replace y2 := hE _ _ y2
      replace y3 := hE _ _ y3
      replace y4 := hE _ _ y4
      replace z0 := hE _ _ z0
      replace z1 := hE _ _ z1
      replace z2 := hE _ _ z2
      replace z3 := hE _ _ z3
      replace z4 := hE _ _ z4
      have HE := Lib.hid (And.intro hE hby)
      clear hE hy hby
      simp only [List.take_succ_cons, List.take_zero, List.drop_succ_cons, List.drop_zero]
      repeat still_step
      refine wpStill_nil ?_
      go_wp2_with fail
      refine (sameRow_any xs[k] _ _ _ (HX.out.1.ext HE.out.1) (HX.out.2.ext HE.out.1)).mono ?_
      rintro e w1 ⟨rfl, hb1⟩
      have HB1 := Lib.hid (bthen HB.out (bthen HE.out.2 hb1))
      clear hb1 y0 y1 y2 y3 y4 z0 z1 z2 z3 z4
      go_wp2_with fail
      go_roundw
      case rel => exact ⟨k + 1, by omega, by go_num, HB1.out⟩
      case measure => simp [intOf]; omega
    · go_wp2_with fail
      go_ret
      exact ⟨rfl, HB.out⟩
/-- The rows copied as yet: a row of the call's own, of which each events' slice is a row of the call's own. -/
def RowsOwnL (w W : World) (B : Nat) (v : Value) (k : Nat) (rs : List Row) (L : List Value) : Prop :=
  W.ownsRow B 45 5 v k L ∧ ∀ i (h : i < rs.length), i < k → ∃ ev ne, L[i * 5]? = some (.int .i64 rs[i].tick) ∧ L[i * 5 + 1]? = some (.int .i64 rs[i].owner) ∧ L[i * 5 + 2]? = some (.bool rs[i].dealt) ∧ L[i * 5 + 3]? = some (.int .i64 rs[i].mode) ∧ L[i * 5 + 4]? = some ev ∧ W.ownsRow B 49 4 ev rs[i].events.length ne ∧ (∀ W' b u, Ext w W' → W'.ownsRow b 49 4 u rs[i].events.length ne → EventsV W' u rs[i].events)
def RowsOwn (w W : World) (B : Nat) (v : Value) (k : Nat) (rs : List Row) : Prop := ∃ L, RowsOwnL w W B v k rs L
theorem RowsOwnL.below {w W W' : World} {B k : Nat} {v : Value} {rs : List Row} {L : List Value} (h : RowsOwnL w W B v k rs L) (hb : Below W.heap.size W W') : RowsOwnL w W' B v k rs L := by
  obtain ⟨h1, h2⟩ := h
  refine ⟨Below.kept h1 hb, fun i hi hk => ?_⟩
  obtain ⟨ev, ne, a0, a1, a2, a3, a4, a5, a6⟩ := h2 i hi hk
  exact ⟨ev, ne, a0, a1, a2, a3, a4, Below.kept a5 hb, a6⟩
theorem RowsOwn.below {w W W' : World} {B k : Nat} {v : Value} {rs : List Row} (h : RowsOwn w W B v k rs) (hb : Below W.heap.size W W') : RowsOwn w W' B v k rs := by
  obtain ⟨L, h⟩ := h
  exact ⟨L, h.below hb⟩
theorem RowsOwnL.snoc {w W W' : World} {B k : Nat} {v v' ev : Value} {rs : List Row} {L ne : List Value} (h : RowsOwnL w W B v k rs L)
    (hk : k < rs.length) (he : W.ownsRow B 49 4 ev rs[k].events.length ne) (hb : ∀ W' b u, Ext w W' → W'.ownsRow b 49 4 u rs[k].events.length ne → EventsV W' u rs[k].events)
    (hn : W'.ownsRow B 45 5 v' (k + 1) (L ++ [.int .i64 rs[k].tick, .int .i64 rs[k].owner, .bool rs[k].dealt, .int .i64 rs[k].mode, ev])) (hg : W.grownBy W' v.ownBlock) : RowsOwn w W' B v' (k + 1) rs := by
  obtain ⟨hL, h2⟩ := h
  have hr : ∀ g, v.ownBlock = some g → Typed W g 45 := fun g hg => own_typed hL hg
  refine ⟨_, hn, fun i hi hik => ?_⟩
  have hl : L.length = k * 5 := hL.1
  by_cases e : i = k
  · subst e
    refine ⟨ev, ne, ?_, ?_, ?_, ?_, ?_, own_apart he hg hr (by decide), hb⟩
    · rw [List.getElem?_append_right (by omega), show i * 5 - L.length = 0 by omega]; rfl
    · rw [List.getElem?_append_right (by omega), show i * 5 + 1 - L.length = 1 by omega]; rfl
    · rw [List.getElem?_append_right (by omega), show i * 5 + 2 - L.length = 2 by omega]; rfl
    · rw [List.getElem?_append_right (by omega), show i * 5 + 3 - L.length = 3 by omega]; rfl
    · rw [List.getElem?_append_right (by omega), show i * 5 + 4 - L.length = 4 by omega]; rfl
  · obtain ⟨ev', ne', a0, a1, a2, a3, a4, a5, a6⟩ := h2 i hi (by omega)
    refine ⟨ev', ne', ?_, ?_, ?_, ?_, ?_, own_apart a5 hg hr (by decide), a6⟩
    · rw [List.getElem?_append_left (by omega)]; exact a0
    · rw [List.getElem?_append_left (by omega)]; exact a1
    · rw [List.getElem?_append_left (by omega)]; exact a2
    · rw [List.getElem?_append_left (by omega)]; exact a3
    · rw [List.getElem?_append_left (by omega)]; exact a4
theorem RowsOwn.rows {w W : World} {B : Nat} {v : Value} {rs : List Row} (h : RowsOwn w W B v rs.length rs) (hw : Ext w W) (hB : rs.length * 56 ≤ 140737488351232) : RowsV W v rs := by
  obtain ⟨L, h1, h2⟩ := h
  by_cases hx : rs = []
  · subst hx
    rcases h1.2 with ⟨rfl, _⟩ | ⟨g, cap', cur, rfl, _, _, hn, hm, _⟩
    · exact slice0 _ _ _ _
    · exact ⟨_, cap', rfl, by simp, hn, hm, fun h => absurd rfl h⟩
  · have hpos : 0 < rs.length := List.length_pos_iff.2 hx
    obtain ⟨g, cap', rfl, hg, hn, hm⟩ := ownsRow_some h1 hpos
    refine ⟨_, cap', rfl, hB, hn, hm, fun _ => ⟨g, 0, rfl, fun i hi => ?_⟩⟩
    obtain ⟨ev, ne, a0, a1, a2, a3, a4, a5, a6⟩ := h2 i hi hi
    refine ⟨?_, ?_, ?_, ?_, ev, ?_, a6 _ _ _ hw a5⟩
    · unfold IntAt; rw [Nat.zero_add, h1.cellAt _ (by omega)]; exact a0
    · unfold IntAt; rw [Nat.zero_add, h1.cellAt _ (by omega)]; exact a1
    · unfold BoolAt; rw [Nat.zero_add, h1.cellAt _ (by omega)]; exact a2
    · unfold IntAt; rw [Nat.zero_add, h1.cellAt _ (by omega)]; exact a3
    · rw [Nat.zero_add, h1.cellAt _ (by omega)]; exact a4

set_option maxRecDepth 100000 in
set_option maxHeartbeats 1600000 in
theorem copyRows_any (v : Value) (rs : List Row) (w : World) (hv : RowsV w v rs) :
    Calls Try.prog 7 #[v] w fun e w' => ∃ v', e = .returned v' ∧ RowsOwn w w' w.heap.size v' rs.length rs ∧ RowsV w' v' rs ∧ Below w.heap.size w w' := by
  obtain ⟨a, cap, rfl, h2, h3, h4, h5⟩ := hv
  have H := Lib.hid h5
  have hl : rs.length ≤ 1000000000000000 := by omega
  clear h5
  go_enter Try.func7, Try.ntmps7
  go_wp2_with fail
  go_loopw [3, 4, 5] (fun o i _ wr => ∃ k : Nat, k ≤ rs.length ∧ i = .int .i64 k ∧ Hid (RowsOwn w wr w.heap.size o k rs) ∧ Below w.heap.size w wr) (fun _ i _ _ => rs.length - (intOf i).toNat)
  case atStart => exact ⟨0, by omega, rfl, Lib.hid ⟨[], World.ownsRow_nil _ _ _ _, fun i _ h => absurd h (by omega)⟩, Below.refl _ _⟩
  case round =>
    obtain ⟨k, hk, rfl, HO, hB⟩ := hrel
    have HB := Lib.hid hB
    clear hB
    by_cases hlt : k < rs.length
    · obtain ⟨b, off, rfl, hc⟩ := H.out (by intro h; rw [h] at hlt; simp at hlt)
      have hE := Ext.below HB.out
      obtain ⟨y0, y1, y2, y3, ev, y4, hev⟩ := RowAt.ext hE (hc k hlt)
      have hev0 := hc k hlt
      unfold IntAt at y0 y1 y3
      unfold BoolAt at y2
      obtain ⟨-, -, -, -, ev0, y40, hev0⟩ := hev0
      have hvv : ev = ev0 := by have := hE _ _ y40; rw [y4] at this; injection this
      subst hvv
      obtain ⟨ea, ec, rfl, -⟩ := hev
      have HEV := Lib.hid hev0
      have hbr : b < wr.heap.size := cell_lt y0
      clear hc hE hev0 y40
      go_wp2_with fail
      refine (CopyEvents_any _ rs[k].events w _ ?_ HEV.out).mono ?_
      · exact (Ext.below HB.out).trans (Ext.alloc _ _)
      rintro e w1 ⟨v', ne, rfl, hown, hback, hb1⟩
      obtain ⟨rb, hrb⟩ : ∃ rb, rb = wr.heap.size := ⟨_, rfl⟩
      have hc1 := fun o => (bcell hb1).1 wr.heap.size o (by simp)
      have r0 := (hc1 0).trans (box_at 0 rfl)
      have r1 := (hc1 1).trans (box_at 1 rfl)
      have r2 := (hc1 2).trans (box_at 2 rfl)
      have r3 := (hc1 3).trans (box_at 3 rfl)
      have r4 := (hc1 4).trans (box_at 4 rfl)
      have rfz : ∀ o, w1.frozen? ⟨wr.heap.size, o, none⟩ = false := fun o => by
        rw [(bcell hb1).2 _ _ (by simp)]
        unfold World.frozen?
        rw [blk_new]
        simp
      have rf4 := rfz 4
      have htyp : Typed w1 wr.heap.size 45 := ⟨_, (hb1.block _ (by simp)).trans (blk_new _ _)⟩
      have hbw1 : Below wr.heap.size wr w1 := bthen (balloc _ _) hb1
      rw [← hrb] at r0 r1 r2 r3 r4 rf4 htyp ⊢
      have hg2 := set_grown w1 rb 4 v'
      have hbW : Below wr.heap.size wr (w1.setCell ⟨rb, 4, none⟩ v') := hbw1.setCell (p := ⟨rb, 4, none⟩) (by simp; omega) _
      obtain ⟨L, hL⟩ := HO.out.below hbW
      have hev2 : (w1.setCell ⟨rb, 4, none⟩ v').ownsRow w.heap.size 49 4 v' rs[k].events.length ne := by
        refine own_apart (t := 45) (own_lower hown (by have := HB.out.size; simp; omega)) hg2 (fun g hg => by injection hg with hg; subst hg; exact htyp) (by decide)
      have hsz : w.heap.size ≤ (w1.setCell ⟨rb, 4, none⟩ v').heap.size := by have h1 := HB.out.size; have h2 := hbW.size; omega
      obtain ⟨va, vc, rfl⟩ := own_shape hown
      have HL := Lib.hid hL
      have HEV2 := Lib.hid hev2
      have HBK := Lib.hid hback
      have HBW := Lib.hid (bthen HB.out hbW)
      have HSZ := Lib.hid hsz
      clear hc1 rfz htyp hbw1 hg2 hbW hL hev2 hown hback hb1 hsz hrb y0 y1 y2 y3 y4
      go_wp2_with (at_builtin; refine append_elem rfl (.tmp 23) (.tmp 25) 27 rfl w.heap.size 45 _ 5 56 Try.underlying27 infoRow rfl (by decide) _ _ _ rfl HL.out.1 [.int .i64 rs[k].tick, .int .i64 rs[k].owner, .bool rs[k].dealt, .int .i64 rs[k].mode, .slice va rs[k].events.length vc] w1.heap.size (by simp) rfl rfl rfl (by omega) (by omega) HSZ.out ?_)
      intro v2 w3 hown3 hbel3 hgr3
      have HN : Hid (RowsOwn w w3 w.heap.size v2 (k + 1) rs) := Lib.hid ((HL.out.below (balloc _ _)).snoc hlt (Below.kept HEV2.out (balloc _ _)) HBK.out hown3 hgr3)
      have HB3 := Lib.hid (HBW.out.trans hbel3)
      clear hown3 hbel3 hgr3 HL HEV2 HBK HBW HSZ r0 r1 r2 r3 r4 rf4
      go_wp2
      go_roundw
      case rel => exact ⟨k + 1, by omega, by go_num, HN, HB3.out⟩
      case measure => simp [intOf]; omega
    · obtain rfl : k = rs.length := by omega
      obtain ⟨L, hL⟩ := HO.out
      obtain ⟨va, vc, rfl⟩ := own_shape hL.1
      have HR := Lib.hid (HO.out.rows (Ext.below HB.out) h2)
      clear hL
      go_wp2_with fail
      go_ret
      exact ⟨_, rfl, HO.out, HR.out, HB.out⟩
end Go.Proofs.Ytfhebonhcolbdaa
