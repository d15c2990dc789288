/- The law FrameWindows: each tick of each window is its part's, the others are nobody's. -/
import Derived.Test.YtgpefejghhgnmaaLaw6a
import Derived.Test.YtgpefejghhgnmaaCopy2
import Derived.Test.YtgpefejghhgnmaaWinP
set_option linter.unusedVariables false
set_option linter.unusedSimpArgs false
namespace Go.Proofs.Ytgpefejghhgnmaa
open Go.RowKit

theorem infoIntW : (Try.prog.info? 3).map (fun i => (i.zero, i.size, i.bytes)) = some (some (.int .i64 0), 1, 8) := by kernel_rfl
theorem infoWinW : (Try.prog.info? 55).map (fun i => (i.zero, i.size, i.bytes)) = some (some (.agg #[.int .i64 0, .int .i64 0, .int .i64 0]), 3, 24) := by kernel_rfl
def winCells (ws : List Window) : List Value := ws.flatMap fun x => [.int .i64 x.from_, .int .i64 x.to_, .int .i64 x.part]
theorem winCells_snoc (ws : List Window) (x : Window) : winCells (ws ++ [x]) = winCells ws ++ [.int .i64 x.from_, .int .i64 x.to_, .int .i64 x.part] := by simp [winCells]
theorem i64_and3' (x : Int) : ∃ g : Nat, bits BinOp.and IntKind.i64 x 3 = (g : Int) ∧ g ≤ 3 := by
  obtain ⟨g, hg⟩ := Int.eq_ofNat_of_zero_le (show 0 ≤ bits BinOp.and IntKind.i64 x 3 by rw [i64_and3]; omega)
  exact ⟨g, hg, by have := i64_and3 x; omega⟩
theorem i64_and7' (x : Int) : ∃ g : Nat, bits BinOp.and IntKind.i64 x 7 = (g : Int) ∧ g ≤ 7 := by
  obtain ⟨g, hg⟩ := Int.eq_ofNat_of_zero_le (show 0 ≤ bits BinOp.and IntKind.i64 x 7 by rw [i64_and7]; omega)
  exact ⟨g, hg, by have := i64_and7 x; omega⟩

/-- The windows that the call builds: their row, the configuration's block, the parts' block. -/
structure WinSt (w W : World) (pb cb : Nat) (wv : Value) (n : Nat) (ws : List Window) : Prop where
  row : W.ownsRow w.heap.size 55 3 wv n (winCells ws)
  cfg : W.heap[cb]? = some (.cells #[.int .i64 0, .int .i64 1, .slice (some ⟨pb, 0, none⟩) 3 3, wv, .slice none 0 0] 26 (0, 0))
  prt : W.heap[pb]? = some (.cells #[.int .i64 1, .slice none 0 0, .slice none 0 0, .int .i64 0, .slice none 0 0, .slice none 0 0, .int .i64 0, .slice none 0 0, .slice none 0 0] 47 (0, 0))
  ext : Ext w W
  bel : Below w.heap.size w W
theorem WinSt.alloc {w W : World} {pb cb n : Nat} {wv : Value} {ws : List Window} (h : WinSt w W pb cb wv n ws) (o : Obj) : WinSt w (W.alloc o) pb cb wv n ws :=
  ⟨Below.kept h.row (balloc _ _), ((balloc W o).block _ (lt_of_block h.cfg)).trans h.cfg, ((balloc W o).block _ (lt_of_block h.prt)).trans h.prt, h.ext.trans (Ext.alloc _ _), bthen h.bel (balloc _ _)⟩
theorem ext_grown {w W W' : World} (h : Ext w W) {r : Option Nat} (hg : W.grownBy W' r) (hb : Below w.heap.size w W) (hr : ∀ k, r = some k → w.heap.size ≤ k) : Ext w W' := by
  intro a v hv
  have hl := cell_lt hv
  have h1 := h a v hv
  have h2 := cell_lt h1
  rw [← h1]
  exact World.cell?_of_block (hg.block a.block h2 (fun e => by have := hr _ e.symm; omega))
theorem WinSt.grown {w W W' : World} {pb cb n : Nat} {wv : Value} {ws : List Window} (h : WinSt w W pb cb wv n ws) {r : Option Nat} (hg : W.grownBy W' r) (hr : ∀ g, r = some g → Typed W g 3) (hb : ∀ k, r = some k → w.heap.size ≤ k) : WinSt w W' pb cb wv n ws :=
  ⟨own_apart h.row hg hr (by decide), typed_apart h.cfg hg hr (by decide), typed_apart h.prt hg hr (by decide), ext_grown h.ext hg h.bel hb, h.bel.grown hg h.bel.size hb⟩
/-- Whose the ticks are, with j more of nobody's, with m more of p's. -/
def rowA (wh : List Int) (j : Nat) : List Value := (wh ++ List.replicate j (-1)).map (Value.int .i64)
def rowB (wh : List Int) (j m p : Nat) : List Value := (wh ++ List.replicate j (-1) ++ List.replicate m ((p : Nat) : Int)).map (Value.int .i64)
theorem rowA_snoc (wh : List Int) (j : Nat) : rowA wh j ++ [.int .i64 (-1)] = rowA wh (j + 1) := by unfold rowA; rw [List.replicate_succ', ← List.append_assoc, List.map_append (l₂ := [-1])]; rfl
theorem rowB_snoc (wh : List Int) (j m p : Nat) : rowB wh j m p ++ [.int .i64 (p : Int)] = rowB wh j (m + 1) p := by unfold rowB; rw [List.replicate_succ', ← List.append_assoc, List.map_append (l₂ := [(p : Int)])]; rfl
theorem rowA_zero (wh : List Int) : rowA wh 0 = wh.map (Value.int .i64) := by simp [rowA]
theorem rowB_zero (wh : List Int) (j p : Nat) : rowB wh j 0 p = rowA wh j := by simp [rowA, rowB]
theorem IntsRow.snoc (wh : List Int) (x : Int) : wh.map (Value.int .i64) ++ [.int .i64 x] = (wh ++ [x]).map (Value.int .i64) := by simp
theorem rep_snoc (wh : List Int) (j : Nat) (x : Int) : wh ++ List.replicate (j + 1) x = (wh ++ List.replicate j x) ++ [x] := by rw [List.replicate_succ', List.append_assoc]

theorem winCells_get : ∀ (ws : List Window) (i : Nat) (h : i < ws.length), (winCells ws)[i * 3]? = some (.int .i64 ws[i].from_) ∧ (winCells ws)[i * 3 + 1]? = some (.int .i64 ws[i].to_) ∧ (winCells ws)[i * 3 + 2]? = some (.int .i64 ws[i].part)
  | x :: r, 0, _ => by simp [winCells]
  | x :: r, i + 1, h => by
    have := winCells_get r i (by simpa using h)
    have e : winCells (x :: r) = [.int .i64 x.from_, .int .i64 x.to_, .int .i64 x.part] ++ winCells r := by simp [winCells]
    rw [e]
    have e3 : [Value.int .i64 x.from_, .int .i64 x.to_, .int .i64 x.part].length = 3 := rfl
    rw [List.getElem?_append_right (by rw [e3]; omega), List.getElem?_append_right (by rw [e3]; omega), List.getElem?_append_right (by rw [e3]; omega)]
    rw [e3, show (i + 1) * 3 - 3 = i * 3 by omega, show (i + 1) * 3 + 1 - 3 = i * 3 + 1 by omega, show (i + 1) * 3 + 2 - 3 = i * 3 + 2 by omega]
    simpa using this
theorem winRow {W : World} {B n : Nat} {wa : Option Addr} {wk : Nat} {ws : List Window} (hl : ws.length = n) (h : W.ownsRow B 55 3 (.slice wa n wk) n (winCells ws)) (hn : n ≤ 8) : WindowsV W (.slice wa n wk) ws := by
  subst hl
  by_cases hx : ws = []
  · subst hx
    rcases h.2 with ⟨e, _⟩ | ⟨g, cap', cur, e, _, _, hn, hm, _⟩
    · rw [e]; exact slice0 _ _ _ _
    · rw [e]; exact ⟨_, cap', rfl, by simp, hn, hm, fun h => absurd rfl h⟩
  · have hpos : 0 < ws.length := List.length_pos_iff.2 hx
    obtain ⟨g, cap', e, hg, hn', hm⟩ := ownsRow_some h hpos
    rw [e] at h ⊢
    refine ⟨_, cap', rfl, by omega, hn', hm, fun _ => ⟨g, 0, rfl, fun i hi => ?_⟩⟩
    obtain ⟨a1, a2, a3⟩ := winCells_get ws i hi
    refine ⟨?_, ?_, ?_⟩
    · unfold IntAt; rw [Nat.zero_add, h.cellAt _ (by omega)]; exact a1
    · unfold IntAt; rw [Nat.zero_add, h.cellAt _ (by omega)]; exact a2
    · unfold IntAt; rw [Nat.zero_add, h.cellAt _ (by omega)]; exact a3
theorem winParts {W : World} {pb : Nat} (h : W.heap[pb]? = some (.cells #[.int .i64 1, .slice none 0 0, .slice none 0 0, .int .i64 0, .slice none 0 0, .slice none 0 0, .int .i64 0, .slice none 0 0, .slice none 0 0] 47 (0, 0))) : PartsV W (.slice (some ⟨pb, 0, none⟩) 3 3) [⟨1, [], []⟩, ⟨0, [], []⟩, ⟨0, [], []⟩] := by
  have hB := BlockIs.of h
  have p0 : PartAt W pb 0 ⟨1, [], []⟩ := ⟨hB 0 _ rfl, _, _, hB 1 _ rfl, hB 2 _ rfl, ⟨slice0 _ _ _ _, slice0 _ _ _ _⟩⟩
  have p1 : PartAt W pb 3 ⟨0, [], []⟩ := ⟨hB 3 _ rfl, _, _, hB 4 _ rfl, hB 5 _ rfl, ⟨slice0 _ _ _ _, slice0 _ _ _ _⟩⟩
  have p2 : PartAt W pb 6 ⟨0, [], []⟩ := ⟨hB 6 _ rfl, _, _, hB 7 _ rfl, hB 8 _ rfl, ⟨slice0 _ _ _ _, slice0 _ _ _ _⟩⟩
  exact ⟨some ⟨pb, 0, none⟩, 3, rfl, by simp, by simp, by decide, fun _ => ⟨pb, 0, rfl, fun i hi => by
    have hi : i < 3 := by simpa using hi
    match i, hi with
    | 0, _ => simpa using p0
    | 1, _ => simpa using p1
    | 2, _ => simpa using p2⟩⟩

set_option maxRecDepth 100000 in
set_option maxHeartbeats 8000000 in
theorem frameWindows_any (gs : List Int) (gv : Value) (ss : List Int) (sv : Value) (t : Int) (w : World) (hg : IntsV w gv gs) (hs : IntsV w sv ss) :
    Calls Try.prog 7 #[gv, sv, .int .i64 t] w fun e w' => e = .returned (.bool true) ∧ Below w.heap.size w w' := by
  obtain ⟨ga, gc, rfl, g2, g3, g4, g5⟩ := hg
  obtain ⟨sa, sc, rfl, s2, s3, s4, s5⟩ := hs
  have HGV := Lib.hid g5
  have HSV := Lib.hid s5
  have gl : gs.length ≤ 100000000000000 := by omega
  have sl : ss.length ≤ 100000000000000 := by omega
  obtain ⟨k, hk0⟩ := Int.eq_ofNat_of_zero_le (show 0 ≤ bits BinOp.and IntKind.i64 t 1048575 by rw [i64_and1048575]; omega)
  have hk1 : k ≤ 1048575 := by have := i64_and1048575 t; omega
  clear g5 s5
  go_enter Try.func7, Try.ntmps7
  go_wp2_with fail
  refine (awake6_any _).mono ?_
  rintro e w1 ⟨rfl, hb1⟩
  have HB1 := Lib.hid hb1
  clear hb1
  go_wp2_with fail
  obtain ⟨pb, hpb⟩ : ∃ pb, pb = w1.heap.size := ⟨_, rfl⟩
  obtain ⟨cb, hcb⟩ : ∃ cb, cb = w1.heap.size + 1 := ⟨_, rfl⟩
  obtain ⟨wz, hwz⟩ : ∃ wz, wz = (w1.alloc (.cells #[.int .i64 1, .slice none 0 0, .slice none 0 0, .int .i64 0, .slice none 0 0, .slice none 0 0, .int .i64 0, .slice none 0 0, .slice none 0 0] 47)).alloc (.cells #[.int .i64 0, .int .i64 1, .slice (some ⟨w1.heap.size, 0, none⟩) 3 3, .slice none 0 0, .slice none 0 0] 26) := ⟨_, rfl⟩
  have hst : WinSt w wz pb cb (.slice none 0 0) 0 [] := by
    have hbz : Below w.heap.size w wz := by rw [hwz]; exact bthen HB1.out (bthen (balloc _ _) (balloc _ _))
    refine ⟨World.ownsRow_nil _ _ _ _, ?_, ?_, Ext.below hbz, hbz⟩
    · rw [hwz, hcb, hpb]; simp only [heap_push, Array.getElem?_push, Array.size_push]; simp
    · rw [hwz, hpb]; simp only [heap_push, Array.getElem?_push, Array.size_push]; simp
  have hwb : w.heap.size ≤ cb := by rw [hcb]; have := HB1.out.size; omega
  rw [← hwz, ← hcb, ← hpb]
  have HS0 := Lib.hid hst
  clear hwz hcb hpb hst HB1
  go_loopw [8, 9, 10, 11, 12, 13, 14] (fun av v i _ _ _ _ wr => ∃ (n a : Nat) (ws : List Window) (wh : List Int) (wv : Value), n ≤ gs.length ∧ n ≤ 8 ∧ i = .int .i64 n ∧ av = .int .i64 a ∧ a ≤ 88 ∧ Hid (Win n a ws wh) ∧ Hid (wr.ownsRow w.heap.size 3 1 v a (wh.map (Value.int .i64))) ∧ Hid (WinSt w wr pb cb wv n ws)) (fun _ _ i _ _ _ _ _ => gs.length - (intOf i).toNat)
  case atStart => exact ⟨0, 0, [], [], _, by omega, by omega, rfl, rfl, by omega, Lib.hid Win.zero, Lib.hid (World.ownsRow_nil _ _ _ _), HS0⟩
  case round =>
    obtain ⟨n, a, ws, wh, wv, hn1, hn2, rfl, rfl, ha, HW, HWH, HST⟩ := hrel
    by_cases hnl : n < gs.length
    · by_cases hn8 : n < 8
      · have en8 : decide ((n : Int) < 8) = true := by simp; omega
        obtain ⟨gb, goff, rfl, gcell⟩ := HGV.out (by intro h; rw [h] at hnl; simp at hnl)
        have y0 := HST.out.ext _ _ (gcell n hnl)
        rw [Nat.mul_one] at y0
        obtain ⟨g, hg0, hg1⟩ := i64_and3' gs[n]
        have hnm : (n : Int).tmod 3 = ((n % 3 : Nat) : Int) := by rw [Int.tmod_eq_emod_of_nonneg (by omega)]; rfl
        have hnm2 : (n : Int) % 3 = ((n % 3 : Nat) : Int) := rfl
        obtain ⟨p, hp⟩ : ∃ p, p = n % 3 := ⟨_, rfl⟩
        have hp3 : p < 3 := by omega
        rw [← hp] at hnm hnm2
        have HP := Lib.hid hp
        clear gcell hp
        by_cases hsl : n < ss.length
        · obtain ⟨sb, soff, rfl, scell⟩ := HSV.out (by intro h; rw [h] at hsl; simp at hsl)
          have y1 := HST.out.ext _ _ (scell n hsl)
          rw [Nat.mul_one] at y1
          obtain ⟨s0, hs0, hs1⟩ := i64_and7' ss[n]
          have HSE : Hid ((1 : Int) + (s0 : Int) = ((1 + s0 : Nat) : Int)) := Lib.hid (by omega)
          clear scell
          go_wp2_with fail
          clear y0 y1
          obtain ⟨wo, rfl⟩ : ∃ wo : World, wo = wr := ⟨_, rfl⟩
          go_loopw [9, 13] (fun v i wq => ∃ j : Nat, j ≤ g ∧ i = .int .i64 j ∧ Hid (wq.ownsRow w.heap.size 3 1 v (a + j) (rowA wh j)) ∧ Hid (WinSt w wq pb cb wv n ws)) (fun _ i _ => g - (intOf i).toNat)
          case atStart => exact ⟨0, by omega, rfl, Lib.hid (by rw [rowA_zero]; exact HWH.out), HST⟩
          case round =>
            obtain ⟨j, hj, rfl, HO, HS2⟩ := hrel
            by_cases hjl : j < g
            · have hsz := HS2.out.bel.size
              go_wp2_with (at_builtin; refine append_one rfl (.tmp 55) (.tmp 56) 53 rfl w.heap.size 3 (.int .i64 0) 1 8 Try.underlying53 infoIntW rfl (by decide) _ _ _ rfl HO.out [.int .i64 (-1)] rfl rfl rfl (by omega) (by decide) hsz ?_)
              intro v' w3 hown3 hbel3 hgr3
              have HN : Hid (w3.ownsRow w.heap.size 3 1 v' (a + (j + 1)) (rowA wh (j + 1))) := Lib.hid (by rw [← rowA_snoc, ← Nat.add_assoc]; exact hown3)
              have HS3 := Lib.hid ((HS2.out.alloc _).grown hgr3 (fun q hq => own_typed (Below.kept HO.out (balloc _ _)) hq) (fun q hq => (HO.out.lt q hq).1))
              clear hown3 hbel3 hgr3 hsz
              go_wp2
              go_roundw
              case rel => exact ⟨j + 1, by omega, by go_num, HN, HS3⟩
              case measure => simp [intOf]; omega
            · obtain rfl : j = g := by omega
              go_wp2_with fail
              obtain ⟨wo, rfl⟩ : ∃ wo : World, wo = wr := ⟨_, rfl⟩
              go_loopw [9, 14] (fun v i wq => ∃ m : Nat, m ≤ (1 + s0) ∧ i = .int .i64 m ∧ Hid (wq.ownsRow w.heap.size 3 1 v (a + j + m) (rowB wh j m p)) ∧ Hid (WinSt w wq pb cb wv n ws)) (fun _ i _ => (1 + s0) - (intOf i).toNat)
              case atStart => exact ⟨0, by omega, rfl, Lib.hid (by rw [rowB_zero]; exact HO.out), HS2⟩
              case round =>
                obtain ⟨m, hm, rfl, HO3, HS3⟩ := hrel
                by_cases hml : m < (1 + s0)
                · have hsz := HS3.out.bel.size
                  have hmi : (m : Int) < (1 : Int) + (s0 : Int) := by omega
                  go_wp2_with (at_builtin; refine append_one rfl (.tmp 63) (.tmp 66) 53 rfl w.heap.size 3 (.int .i64 0) 1 8 Try.underlying53 infoIntW rfl (by decide) _ _ _ rfl HO3.out [.int .i64 (p : Int)] rfl rfl rfl (by omega) (by decide) hsz ?_)
                  intro v' w3 hown3 hbel3 hgr3
                  have HN : Hid (w3.ownsRow w.heap.size 3 1 v' (a + j + (m + 1)) (rowB wh j (m + 1) p)) := Lib.hid (by rw [← rowB_snoc, ← Nat.add_assoc]; exact hown3)
                  have HS4 := Lib.hid ((HS3.out.alloc _).grown hgr3 (fun q hq => own_typed (Below.kept HO3.out (balloc _ _)) hq) (fun q hq => (HO3.out.lt q hq).1))
                  clear hown3 hbel3 hgr3 hsz
                  go_wp2
                  go_roundw
                  case rel => exact ⟨m + 1, by omega, by go_num, HN, HS4⟩
                  case measure => simp [intOf]; omega
                · obtain rfl : m = (1 + s0) := by omega
                  have hsz := HS3.out.bel.size
                  have hB := BlockIs.of HS3.out.cfg
                  have z3 := hB 3 _ rfl
                  have hcl : cb < wr.heap.size := lt_of_block HS3.out.cfg
                  have hmi : ¬ ((((1 + s0) : Nat) : Int) < (1 : Int) + (s0 : Int)) := by omega
                  clear hB
                  go_wp2_with (at_builtin; refine append_one rfl (.tmp 69) (.tmp 81) 23 rfl w.heap.size 55 _ 3 24 Try.underlying23 infoWinW rfl (by decide) _ _ _ rfl HS3.out.row [.int .i64 ((a : Int) + j), .int .i64 ((a : Int) + j + (1 + (s0 : Int))), .int .i64 (p : Int)] rfl rfl rfl (by omega) (by decide) hsz ?_)
                  intro v' w3 hown3 hbel3 hgr3
                  obtain ⟨va, vc, hvs⟩ := own_shape hown3
                  subst hvs
                  have hsa := HS3.out.alloc (.cells #[.int .i64 ((a : Int) + j), .int .i64 ((a : Int) + j + (1 + (s0 : Int))), .int .i64 (p : Int)] 55)
                  have hr3 : ∀ g, wv.ownBlock = some g → Typed (wr.alloc (.cells #[.int .i64 ((a : Int) + j), .int .i64 ((a : Int) + j + (1 + (s0 : Int))), .int .i64 (p : Int)] 55)) g 55 := fun g hg => own_typed hsa.row hg
                  have cfg3 := typed_apart hsa.cfg hgr3 hr3 (by decide)
                  have prt3 := typed_apart hsa.prt hgr3 hr3 (by decide)
                  have ext3 := ext_grown hsa.ext hgr3 hsa.bel (fun k hk => (hsa.row.lt k hk).1)
                  have int3 := own_apart (Below.kept HO3.out (balloc wr (.cells #[.int .i64 ((a : Int) + j), .int .i64 ((a : Int) + j + (1 + (s0 : Int))), .int .i64 (p : Int)] 55))) hgr3 hr3 (by decide)
                  have bel3 := HS3.out.bel.trans hbel3
                  have r3 : w3.cell? ⟨cb, 3, none⟩ = some wv := BlockIs.of cfg3 3 _ rfl
                  have rf3 : w3.frozen? ⟨cb, 3, none⟩ = false := by unfold World.frozen?; rw [cfg3]; simp
                  have hty : ∀ g, some cb = some g → Typed w3 g 26 := fun g hg => by injection hg with hg; subst hg; exact ⟨_, cfg3⟩
                  have hne : pb ≠ cb := typed_ne ⟨_, prt3⟩ ⟨_, cfg3⟩ (by decide)
                  have hsg := set_grown w3 cb 3 (.slice va (n + 1) vc)
                  have hnext := HW.out.next j (1 + s0) (by omega) (by omega) (by omega)
                  have hwin : (⟨(a : Int) + j, (a : Int) + j + ((1 + s0 : Nat) : Int), ((n % 3 : Nat) : Int)⟩ : Window) = ⟨(a : Int) + j, (a : Int) + j + (1 + (s0 : Int)), (p : Int)⟩ := by rw [← HSE.out, ← HP.out]
                  have HSN : Hid (WinSt w (w3.setCell ⟨cb, 3, none⟩ (.slice va (n + 1) vc)) pb cb (.slice va (n + 1) vc) (n + 1) (ws ++ [⟨(a : Int) + j, (a : Int) + j + ((1 + s0 : Nat) : Int), ((n % 3 : Nat) : Int)⟩])) := Lib.hid ⟨by rw [winCells_snoc, hwin]; exact own_apart hown3 hsg hty (by decide), by simpa using blk_set cfg3 3 (.slice va (n + 1) vc), by rw [Below.heap_setCell _ _ _ _ hne]; exact prt3, ext_grown ext3 hsg bel3 (fun k hk => by injection hk with hk; omega), bel3.setCell (p := ⟨cb, 3, none⟩) hwb _⟩
                  have HIN : Hid ((w3.setCell ⟨cb, 3, none⟩ (.slice va (n + 1) vc)).ownsRow w.heap.size 3 1 u9 (a + j + (1 + s0)) ((wh ++ List.replicate j (-1) ++ List.replicate (1 + s0) ((n % 3 : Nat) : Int)).map (Value.int .i64))) := Lib.hid (by
                    have := own_apart int3 hsg hty (by decide)
                    unfold rowB at this
                    rw [HP.out] at this
                    exact this)
                  have HNX := Lib.hid hnext
                  have ha8 := hnext.small
                  clear hsa hr3 cfg3 prt3 ext3 int3 bel3 hty hne hsg hnext hwin hown3 hbel3 hgr3 z3 hmi hsz hcl
                  go_wp2_with fail
                  go_roundw
                  case rel => exact ⟨n + 1, a + j + (1 + s0), _, _, _, by omega, by omega, by go_num, by go_num, by omega, HNX, HIN, HSN⟩
                  case measure => simp [intOf]; omega
        · have HSE : Hid ((1 : Int) = ((1 : Nat) : Int)) := Lib.hid rfl
          go_wp2_with fail
          clear y0 
          obtain ⟨wo, rfl⟩ : ∃ wo : World, wo = wr := ⟨_, rfl⟩
          go_loopw [9, 13] (fun v i wq => ∃ j : Nat, j ≤ g ∧ i = .int .i64 j ∧ Hid (wq.ownsRow w.heap.size 3 1 v (a + j) (rowA wh j)) ∧ Hid (WinSt w wq pb cb wv n ws)) (fun _ i _ => g - (intOf i).toNat)
          case atStart => exact ⟨0, by omega, rfl, Lib.hid (by rw [rowA_zero]; exact HWH.out), HST⟩
          case round =>
            obtain ⟨j, hj, rfl, HO, HS2⟩ := hrel
            by_cases hjl : j < g
            · have hsz := HS2.out.bel.size
              go_wp2_with (at_builtin; refine append_one rfl (.tmp 55) (.tmp 56) 53 rfl w.heap.size 3 (.int .i64 0) 1 8 Try.underlying53 infoIntW rfl (by decide) _ _ _ rfl HO.out [.int .i64 (-1)] rfl rfl rfl (by omega) (by decide) hsz ?_)
              intro v' w3 hown3 hbel3 hgr3
              have HN : Hid (w3.ownsRow w.heap.size 3 1 v' (a + (j + 1)) (rowA wh (j + 1))) := Lib.hid (by rw [← rowA_snoc, ← Nat.add_assoc]; exact hown3)
              have HS3 := Lib.hid ((HS2.out.alloc _).grown hgr3 (fun q hq => own_typed (Below.kept HO.out (balloc _ _)) hq) (fun q hq => (HO.out.lt q hq).1))
              clear hown3 hbel3 hgr3 hsz
              go_wp2
              go_roundw
              case rel => exact ⟨j + 1, by omega, by go_num, HN, HS3⟩
              case measure => simp [intOf]; omega
            · obtain rfl : j = g := by omega
              go_wp2_with fail
              obtain ⟨wo, rfl⟩ : ∃ wo : World, wo = wr := ⟨_, rfl⟩
              go_loopw [9, 14] (fun v i wq => ∃ m : Nat, m ≤ 1 ∧ i = .int .i64 m ∧ Hid (wq.ownsRow w.heap.size 3 1 v (a + j + m) (rowB wh j m p)) ∧ Hid (WinSt w wq pb cb wv n ws)) (fun _ i _ => 1 - (intOf i).toNat)
              case atStart => exact ⟨0, by omega, rfl, Lib.hid (by rw [rowB_zero]; exact HO.out), HS2⟩
              case round =>
                obtain ⟨m, hm, rfl, HO3, HS3⟩ := hrel
                by_cases hml : m < 1
                · have hsz := HS3.out.bel.size
                  have hmi : (m : Int) < (1 : Int) := by omega
                  go_wp2_with (at_builtin; refine append_one rfl (.tmp 63) (.tmp 66) 53 rfl w.heap.size 3 (.int .i64 0) 1 8 Try.underlying53 infoIntW rfl (by decide) _ _ _ rfl HO3.out [.int .i64 (p : Int)] rfl rfl rfl (by omega) (by decide) hsz ?_)
                  intro v' w3 hown3 hbel3 hgr3
                  have HN : Hid (w3.ownsRow w.heap.size 3 1 v' (a + j + (m + 1)) (rowB wh j (m + 1) p)) := Lib.hid (by rw [← rowB_snoc, ← Nat.add_assoc]; exact hown3)
                  have HS4 := Lib.hid ((HS3.out.alloc _).grown hgr3 (fun q hq => own_typed (Below.kept HO3.out (balloc _ _)) hq) (fun q hq => (HO3.out.lt q hq).1))
                  clear hown3 hbel3 hgr3 hsz
                  go_wp2
                  go_roundw
                  case rel => exact ⟨m + 1, by omega, by go_num, HN, HS4⟩
                  case measure => simp [intOf]; omega
                · obtain rfl : m = 1 := by omega
                  have hsz := HS3.out.bel.size
                  have hB := BlockIs.of HS3.out.cfg
                  have z3 := hB 3 _ rfl
                  have hcl : cb < wr.heap.size := lt_of_block HS3.out.cfg
                  have hmi : ¬ (((1 : Nat) : Int) < (1 : Int)) := by omega
                  clear hB
                  go_wp2_with (at_builtin; refine append_one rfl (.tmp 69) (.tmp 81) 23 rfl w.heap.size 55 _ 3 24 Try.underlying23 infoWinW rfl (by decide) _ _ _ rfl HS3.out.row [.int .i64 ((a : Int) + j), .int .i64 ((a : Int) + j + (1 : Int)), .int .i64 (p : Int)] rfl rfl rfl (by omega) (by decide) hsz ?_)
                  intro v' w3 hown3 hbel3 hgr3
                  obtain ⟨va, vc, hvs⟩ := own_shape hown3
                  subst hvs
                  have hsa := HS3.out.alloc (.cells #[.int .i64 ((a : Int) + j), .int .i64 ((a : Int) + j + ((1 : Int))), .int .i64 (p : Int)] 55)
                  have hr3 : ∀ g, wv.ownBlock = some g → Typed (wr.alloc (.cells #[.int .i64 ((a : Int) + j), .int .i64 ((a : Int) + j + ((1 : Int))), .int .i64 (p : Int)] 55)) g 55 := fun g hg => own_typed hsa.row hg
                  have cfg3 := typed_apart hsa.cfg hgr3 hr3 (by decide)
                  have prt3 := typed_apart hsa.prt hgr3 hr3 (by decide)
                  have ext3 := ext_grown hsa.ext hgr3 hsa.bel (fun k hk => (hsa.row.lt k hk).1)
                  have int3 := own_apart (Below.kept HO3.out (balloc wr (.cells #[.int .i64 ((a : Int) + j), .int .i64 ((a : Int) + j + ((1 : Int))), .int .i64 (p : Int)] 55))) hgr3 hr3 (by decide)
                  have bel3 := HS3.out.bel.trans hbel3
                  have r3 : w3.cell? ⟨cb, 3, none⟩ = some wv := BlockIs.of cfg3 3 _ rfl
                  have rf3 : w3.frozen? ⟨cb, 3, none⟩ = false := by unfold World.frozen?; rw [cfg3]; simp
                  have hty : ∀ g, some cb = some g → Typed w3 g 26 := fun g hg => by injection hg with hg; subst hg; exact ⟨_, cfg3⟩
                  have hne : pb ≠ cb := typed_ne ⟨_, prt3⟩ ⟨_, cfg3⟩ (by decide)
                  have hsg := set_grown w3 cb 3 (.slice va (n + 1) vc)
                  have hnext := HW.out.next j (1) (by omega) (by omega) (by omega)
                  have hwin : (⟨(a : Int) + j, (a : Int) + j + ((1 : Nat) : Int), ((n % 3 : Nat) : Int)⟩ : Window) = ⟨(a : Int) + j, (a : Int) + j + ((1 : Int)), (p : Int)⟩ := by rw [← HSE.out, ← HP.out]
                  have HSN : Hid (WinSt w (w3.setCell ⟨cb, 3, none⟩ (.slice va (n + 1) vc)) pb cb (.slice va (n + 1) vc) (n + 1) (ws ++ [⟨(a : Int) + j, (a : Int) + j + ((1 : Nat) : Int), ((n % 3 : Nat) : Int)⟩])) := Lib.hid ⟨by rw [winCells_snoc, hwin]; exact own_apart hown3 hsg hty (by decide), by simpa using blk_set cfg3 3 (.slice va (n + 1) vc), by rw [Below.heap_setCell _ _ _ _ hne]; exact prt3, ext_grown ext3 hsg bel3 (fun k hk => by injection hk with hk; omega), bel3.setCell (p := ⟨cb, 3, none⟩) hwb _⟩
                  have HIN : Hid ((w3.setCell ⟨cb, 3, none⟩ (.slice va (n + 1) vc)).ownsRow w.heap.size 3 1 u9 (a + j + (1)) ((wh ++ List.replicate j (-1) ++ List.replicate (1) ((n % 3 : Nat) : Int)).map (Value.int .i64))) := Lib.hid (by
                    have := own_apart int3 hsg hty (by decide)
                    unfold rowB at this
                    rw [HP.out] at this
                    exact this)
                  have HNX := Lib.hid hnext
                  have ha8 := hnext.small
                  clear hsa hr3 cfg3 prt3 ext3 int3 bel3 hty hne hsg hnext hwin hown3 hbel3 hgr3 z3 hmi hsz hcl
                  go_wp2_with fail
                  go_roundw
                  case rel => exact ⟨n + 1, a + j + (1), _, _, _, by omega, by omega, by go_num, by go_num, by omega, HNX, HIN, HSN⟩
                  case measure => simp [intOf]; omega
      · have en8 : decide ((n : Int) < 8) = false := by simp; omega
        have hsz := HST.out.bel.size
        have hcl : cb < wr.heap.size := lt_of_block HST.out.cfg
        go_wp2_with (at_builtin; refine append_one rfl (.tmp 89) (.tmp 90) 53 rfl w.heap.size 3 (.int .i64 0) 1 8 Try.underlying53 infoIntW rfl (by decide) _ _ _ rfl HWH.out [.int .i64 (-1)] rfl rfl rfl (by omega) (by decide) hsz ?_)
        intro v' w3 hown3 hbel3 hgr3
        have hs3 := (HST.out.alloc _).grown hgr3 (fun q hq => own_typed (Below.kept HWH.out (balloc _ _)) hq) (fun q hq => (HWH.out.lt q hq).1)
        obtain ⟨wa, wk, rfl⟩ := own_shape hs3.row
        obtain ⟨q, qk, rfl, hqb, -, -⟩ := ownsRow_some hown3 (by omega)
        have hB := BlockIs.of hs3.cfg
        have z0 := hB 0 _ rfl
        have z1 := hB 1 _ rfl
        have z2 := hB 2 _ rfl
        have z3 := hB 3 _ rfl
        have z4 := hB 4 _ rfl
        have zf : w3.frozen? ⟨cb, 0, none⟩ = false := by unfold World.frozen?; rw [hs3.cfg]; simp
        have hqc : q ≠ cb := typed_ne (own_typed hown3 rfl) ⟨_, hs3.cfg⟩ (by decide)
        have hpc : pb ≠ cb := typed_ne ⟨_, hs3.prt⟩ ⟨_, hs3.cfg⟩ (by decide)
        have hsg := set_grown w3 cb 0 (.int .i64 ((a : Int) + 1))
        have hty : ∀ g, some cb = some g → Typed w3 g 26 := fun g hg => by injection hg with hg; subst hg; exact ⟨_, hs3.cfg⟩
        have HOK := Lib.hid (winCfg_ok HW.out hn2)
        have HBW : Hid (Below w.heap.size w (w3.setCell ⟨cb, 0, none⟩ (.int .i64 ((a : Int) + 1)))) := Lib.hid (hs3.bel.setCell (p := ⟨cb, 0, none⟩) hwb _)
        have hlen := HW.out.len
        have HCV : Hid (CfgIs (w3.setCell ⟨cb, 0, none⟩ (.int .i64 ((a : Int) + 1))) (.slice (some ⟨pb, 0, none⟩) 3 3) (.slice wa n wk) (.slice none 0 0) (winCfg a ws)) := Lib.hid (by
          refine ⟨winParts (pb := pb) ?_, ?_, slice0 _ _ _ _⟩
          · rw [Below.heap_setCell _ _ _ _ hpc]; exact hs3.prt
          · exact winRow hlen (own_apart hs3.row hsg hty (by decide)) (by omega))
        have hrow := own_apart hown3 hsg hty (by decide)
        obtain ⟨r, hr⟩ : ∃ r, r = k % (a + 1) := ⟨_, rfl⟩
        have hra : r < a + 1 := by rw [hr]; exact Nat.mod_lt _ (by omega)
        have hm1 : (k : Int).tmod ((a : Int) + 1) = (r : Int) := by rw [Int.tmod_eq_emod_of_nonneg (by omega), hr, Int.natCast_emod, Int.natCast_add]; rfl
        have hm2 : (k : Int) % ((a : Int) + 1) = (r : Int) := by rw [hr, Int.natCast_emod, Int.natCast_add]; rfl
        have HL : Hid ((w3.setCell ⟨cb, 0, none⟩ (.int .i64 ((a : Int) + 1))).cell? ⟨q, r, none⟩ = some (.int .i64 (ownerAt (r : Int) ws))) := Lib.hid (by
          have h1 := win_last HW.out r hra
          rw [hrow.cellAt r (by omega), IntsRow.snoc, List.getElem?_map, h1]
          rfl)
        have HS0 : Hid (atSpec (winCfg a ws) (k : Int) = (ownerAt (r : Int) ws, 0)) := Lib.hid (by
          unfold atSpec
          rw [if_neg (by have := HOK.out; omega)]
          show (ownerAt ((k : Int) % ((a : Int) + 1)) ws, (0 : Int)) = _
          rw [hm2])
        clear hs3 hB hown3 hbel3 hgr3 hsg hty hrow hr hqc hpc hsz hlen
        go_wp2_with fail
        refine (at_any (winCfg a ws) _ k _ ⟨_, _, _, rfl, HCV.out⟩).mono ?_
        rw [HS0.out]
        rintro e w5 ⟨rfl, hb5⟩
        have HB5 := Lib.hid (bthen HBW.out hb5)
        have y0 := Ext.below hb5 _ _ HL.out
        have o1 : (((a : Int) + 1) == 0) = false := by simp; omega
        have o2 : ¬ ((a : Int) + 1 = 0) := by omega
        have o3 : (r : Int) < (a : Int) + 1 := by omega
        have o4 : IntKind.i64.wrap (r : Int) = (r : Int) := by rw [IntKind.wrap_i64]; omega
        clear hb5 z0 z1 z2 z3 z4 zf
        go_wp2_with (first | (go_at_call 15; refine (num_any _ _).mono ?_; rintro e w' ⟨rfl, hw⟩; subst w') | fail)
        go_ret
        exact ⟨rfl, HB5.out⟩
    · have enl : decide ((n : Int) < (gs.length : Int)) = false := by simp; omega
      have hsz := HST.out.bel.size
      have hcl : cb < wr.heap.size := lt_of_block HST.out.cfg
      go_wp2_with (at_builtin; refine append_one rfl (.tmp 89) (.tmp 90) 53 rfl w.heap.size 3 (.int .i64 0) 1 8 Try.underlying53 infoIntW rfl (by decide) _ _ _ rfl HWH.out [.int .i64 (-1)] rfl rfl rfl (by omega) (by decide) hsz ?_)
      intro v' w3 hown3 hbel3 hgr3
      have hs3 := (HST.out.alloc _).grown hgr3 (fun q hq => own_typed (Below.kept HWH.out (balloc _ _)) hq) (fun q hq => (HWH.out.lt q hq).1)
      obtain ⟨wa, wk, rfl⟩ := own_shape hs3.row
      obtain ⟨q, qk, rfl, hqb, -, -⟩ := ownsRow_some hown3 (by omega)
      have hB := BlockIs.of hs3.cfg
      have z0 := hB 0 _ rfl
      have z1 := hB 1 _ rfl
      have z2 := hB 2 _ rfl
      have z3 := hB 3 _ rfl
      have z4 := hB 4 _ rfl
      have zf : w3.frozen? ⟨cb, 0, none⟩ = false := by unfold World.frozen?; rw [hs3.cfg]; simp
      have hqc : q ≠ cb := typed_ne (own_typed hown3 rfl) ⟨_, hs3.cfg⟩ (by decide)
      have hpc : pb ≠ cb := typed_ne ⟨_, hs3.prt⟩ ⟨_, hs3.cfg⟩ (by decide)
      have hsg := set_grown w3 cb 0 (.int .i64 ((a : Int) + 1))
      have hty : ∀ g, some cb = some g → Typed w3 g 26 := fun g hg => by injection hg with hg; subst hg; exact ⟨_, hs3.cfg⟩
      have HOK := Lib.hid (winCfg_ok HW.out hn2)
      have HBW : Hid (Below w.heap.size w (w3.setCell ⟨cb, 0, none⟩ (.int .i64 ((a : Int) + 1)))) := Lib.hid (hs3.bel.setCell (p := ⟨cb, 0, none⟩) hwb _)
      have hlen := HW.out.len
      have HCV : Hid (CfgIs (w3.setCell ⟨cb, 0, none⟩ (.int .i64 ((a : Int) + 1))) (.slice (some ⟨pb, 0, none⟩) 3 3) (.slice wa n wk) (.slice none 0 0) (winCfg a ws)) := Lib.hid (by
        refine ⟨winParts (pb := pb) ?_, ?_, slice0 _ _ _ _⟩
        · rw [Below.heap_setCell _ _ _ _ hpc]; exact hs3.prt
        · exact winRow hlen (own_apart hs3.row hsg hty (by decide)) (by omega))
      have hrow := own_apart hown3 hsg hty (by decide)
      obtain ⟨r, hr⟩ : ∃ r, r = k % (a + 1) := ⟨_, rfl⟩
      have hra : r < a + 1 := by rw [hr]; exact Nat.mod_lt _ (by omega)
      have hm1 : (k : Int).tmod ((a : Int) + 1) = (r : Int) := by rw [Int.tmod_eq_emod_of_nonneg (by omega), hr, Int.natCast_emod, Int.natCast_add]; rfl
      have hm2 : (k : Int) % ((a : Int) + 1) = (r : Int) := by rw [hr, Int.natCast_emod, Int.natCast_add]; rfl
      have HL : Hid ((w3.setCell ⟨cb, 0, none⟩ (.int .i64 ((a : Int) + 1))).cell? ⟨q, r, none⟩ = some (.int .i64 (ownerAt (r : Int) ws))) := Lib.hid (by
        have h1 := win_last HW.out r hra
        rw [hrow.cellAt r (by omega), IntsRow.snoc, List.getElem?_map, h1]
        rfl)
      have HS0 : Hid (atSpec (winCfg a ws) (k : Int) = (ownerAt (r : Int) ws, 0)) := Lib.hid (by
        unfold atSpec
        rw [if_neg (by have := HOK.out; omega)]
        show (ownerAt ((k : Int) % ((a : Int) + 1)) ws, (0 : Int)) = _
        rw [hm2])
      clear hs3 hB hown3 hbel3 hgr3 hsg hty hrow hr hqc hpc hsz hlen
      go_wp2_with fail
      refine (at_any (winCfg a ws) _ k _ ⟨_, _, _, rfl, HCV.out⟩).mono ?_
      rw [HS0.out]
      rintro e w5 ⟨rfl, hb5⟩
      have HB5 := Lib.hid (bthen HBW.out hb5)
      have y0 := Ext.below hb5 _ _ HL.out
      have o1 : (((a : Int) + 1) == 0) = false := by simp; omega
      have o2 : ¬ ((a : Int) + 1 = 0) := by omega
      have o3 : (r : Int) < (a : Int) + 1 := by omega
      have o4 : IntKind.i64.wrap (r : Int) = (r : Int) := by rw [IntKind.wrap_i64]; omega
      clear hb5 z0 z1 z2 z3 z4 zf
      go_wp2_with (first | (go_at_call 15; refine (num_any _ _).mono ?_; rintro e w' ⟨rfl, hw⟩; subst w') | fail)
      go_ret
      exact ⟨rfl, HB5.out⟩
end Go.Proofs.Ytgpefejghhgnmaa
