/- What audit.Shares answers, and the comparison of ints. -/
import Derived.Test.YtfhebonhcolbdaaAud3
import Derived.Test.YtfhebonhcolbdaaRow
set_option linter.unusedVariables false
set_option linter.unusedSimpArgs false
namespace Go.Proofs.Ytfhebonhcolbdaa
open Go.RowKit

theorem infoInt : (Try.prog.info? 3).map (fun i => (i.zero, i.size, i.bytes)) = some (some (.int .i64 0), 1, 8) := by kernel_rfl
/-- How many of some rows a part owns. -/
def ownsN (rs : List Row) (p : Int) : Nat := rs.countP fun r => decide (r.owner = p)
def sharesOf (c : Config) (rs : List Row) : List Int := (List.range c.parts.length).map fun (p : Nat) => ((ownsN rs (p : Int) : Nat) : Int)
def sharesAns (c : Config) (rs : List Row) : List Int := if rowsMay c rs = true then sharesOf c rs else []
def sharesErr (c : Config) (rs : List Row) : Int := if rowsMay c rs = true then 0 else 2400
theorem ownsN_take (rs : List Row) (k : Nat) (h : k < rs.length) (p : Int) : ownsN (rs.take (k + 1)) p = ownsN (rs.take k) p + if rs[k].owner = p then 1 else 0 := by
  unfold ownsN
  rw [List.take_succ_eq_append_getElem h, List.countP_append]
  by_cases e : rs[k].owner = p <;> simp [e]
theorem ownsN_le (rs : List Row) (p : Int) : ownsN rs p ≤ rs.length := List.countP_le_length
/-- A row of whole numbers, as a slice. -/
theorem ValRow.ints {w : World} {q n : Nat} {f : Nat → Int} (h : ValRow w q n (fun s => .int .i64 (f s))) (hn : n * 8 ≤ 140737488351232) : IntsV w (.slice (some ⟨q, 0, none⟩) n n) ((List.range n).map f) := by
  refine ⟨some ⟨q, 0, none⟩, n, by simp, by simpa using hn, by simp, by unfold maxLen; omega, fun _ => ⟨q, 0, rfl, fun i hi => ?_⟩⟩
  have hi' : i < n := by simpa using hi
  have := h.cell i hi'
  unfold IntAt
  simpa using this

theorem Ext.set_new {w W : World} (h : Ext w W) {q : Nat} (hq : w.heap.size ≤ q) (j : Nat) (v : Value) : Ext w (W.setCell ⟨q, j, none⟩ v) := by
  intro a u hu
  rw [World.cell?_setCell_other _ _ _ _ (by
    have := cell_lt hu
    rintro rfl
    simp at this
    omega)]
  exact h a u hu
theorem IntsV.far {W : World} {u : Value} {xs : List Int} (h : IntsV W u xs) {q : Nat} (hq : ∀ b, u.ownBlock = some b → b ≠ q) (j : Nat) (v : Value) : IntsV (W.setCell ⟨q, j, none⟩ v) u xs := by
  obtain ⟨a, cap, rfl, h2, h3, h4, h5⟩ := h
  refine ⟨a, cap, rfl, h2, h3, h4, fun hne => ?_⟩
  obtain ⟨b, off, rfl, hc⟩ := h5 hne
  refine ⟨b, off, rfl, fun i hi => ?_⟩
  have hbq : b ≠ q := hq b rfl
  unfold IntAt
  rw [World.cell?_setCell_other _ _ _ _ (by intro e; injection e with e; exact hbq e.symm)]
  exact hc i hi
set_option maxRecDepth 100000 in
set_option maxHeartbeats 1600000 in
theorem shares_any (c : Config) (v : Value) (rv : Value) (rs : List Row) (w : World) (hc : CfgV w v c) (hv : RowsV w rv rs) :
    Calls Try.prog 9 #[v, rv] w fun e w' => ∃ u, e = .returned (.tuple #[u, .int .i64 (sharesErr c rs)]) ∧ IntsV w' u (sharesAns c rs) ∧ (∀ b, u.ownBlock = some b → w.heap.size ≤ b) ∧ Below w.heap.size w w' := by
  obtain ⟨pv, wv, ov, rfl, hcfg⟩ := hc
  obtain ⟨pa, pk, wa, wk, oa, ok, rfl, rfl, rfl⟩ := hcfg.shape
  have HB0 := Lib.hid (balloc w (.cells #[.int .i64 c.frame, .int .i64 c.quiet, .slice pa c.parts.length pk, .slice wa c.windows.length wk, .slice oa c.ports.length ok] 26))
  have HC0 := Lib.hid (cfg_box w c _ _ _ 26 hcfg)
  have HR := Lib.hid hv
  obtain ⟨a, cap, rfl, h2, h3, h4, h5⟩ := hv
  have HV := Lib.hid h5
  have hl : rs.length ≤ 1000000000000000 := by omega
  obtain ⟨g, hg⟩ : ∃ g, g = w.heap.size := ⟨_, rfl⟩
  rw [← hg] at HC0
  have HG := Lib.hid hg
  clear hcfg hg h5
  go_enter Try.func9, Try.ntmps9
  go_wp2_with fail
  rw [← HG.out]
  refine (auditMay_any g c _ rs _ HC0.out.p (HR.out.ext (Ext.alloc _ _))).mono ?_
  rintro e w1 ⟨rfl, hb1⟩
  have HB1 := Lib.hid (bthen HB0.out hb1)
  have HC1 := Lib.hid (HC0.out.ext (Ext.below hb1))
  clear hb1 HB0 HC0
  cases hm : rowsMay c rs with
  | false =>
    have HX : Hid (sharesErr c rs = 2400 ∧ sharesAns c rs = []) := Lib.hid ⟨by unfold sharesErr; rw [if_neg (by rw [hm]; simp)], by unfold sharesAns; rw [if_neg (by rw [hm]; simp)]⟩
    clear hm
    go_wp2_with fail
    refine bodyPost_ret (v := .tuple #[.slice none 0 0, .int .i64 2400]) (by simp [results, Try.results9, go_sem]) rfl ⟨.slice none 0 0, by rw [HX.out.1], by rw [HX.out.2]; exact slice0 _ _ _ _, fun b hb => by simp [Value.ownBlock] at hb, HB1.out⟩
  | true =>
    have HX : Hid (sharesErr c rs = 0 ∧ sharesAns c rs = sharesOf c rs) := Lib.hid ⟨by unfold sharesErr; rw [if_pos hm], by unfold sharesAns; rw [if_pos hm]⟩
    have hmm : checkCfg c = 0 ∧ ∀ r ∈ rs, rowMay c r = true := by
      unfold rowsMay at hm
      simp only [Bool.and_eq_true, List.all_eq_true, decide_eq_true_eq] at hm
      exact ⟨hm.2, hm.1⟩
    have HM := Lib.hid hmm
    have lp : c.parts.length ≤ 8 := (check_ok hmm.1).2.2.2.2.2.1
    have lp0 : 0 < c.parts.length := (check_ok hmm.1).2.2.2.2.1
    obtain ⟨n, hn⟩ : ∃ n, n = c.parts.length := ⟨_, rfl⟩
    have z2 := HC1.out.c2
    rw [← hn] at lp lp0 z2
    obtain ⟨i0, hi0, hi1, hi2, hi3⟩ := info_parts infoInt
    have HI := Lib.hid (And.intro hi0 (And.intro hi1 (And.intro hi2 hi3)))
    have HNN := Lib.hid hn
    clear hi0 hi1 hi2 hi3 hm hmm hn
    go_wp2_with (at_make; refine wpList_make_full _ rfl (.tmp 14) (.tmp 14) 31 rfl w1.heap.size 3 i0 (.int .i64 0) 1 Try.underlying31 HI.out.1 HI.out.2.1 HI.out.2.2.1 .i64 .i64 n n n rfl rfl rfl rfl (by rw [HI.out.2.2.2]; omega) (by unfold maxLen; omega) (Nat.le_refl _) ?_)
    intro w2 hown hgrow
    have HV2 := Lib.hid (ValRow.made (base := w1.heap.size) (e := 3) (g := w1.heap.size) (n := n) (z := .int .i64 0) (by rw [Nat.mul_one]; exact hown))
    have hb2 : Below w1.heap.size w1 w2 := (Below.refl _ _).grown hgrow (Nat.le_refl _) (by simp)
    have HB2 := Lib.hid (bthen HB1.out hb2)
    have HE2 := Lib.hid (Ext.below hb2)
    obtain ⟨q, hq⟩ : ∃ q, q = w1.heap.size := ⟨_, rfl⟩
    rw [← hq] at HV2 ⊢
    have hqw : w.heap.size ≤ q := by rw [hq]; exact HB1.out.size
    have hqw1 : w1.heap.size ≤ q := by omega
    clear hown hgrow hb2 hq z2 HI
    go_wp2_with fail
    go_loopw [8, 18] (fun _ i wr => ∃ k : Nat, k ≤ rs.length ∧ i = .int .i64 k ∧ Hid (ValRow wr q n (fun s => .int .i64 ((ownsN (rs.take k) (s : Int) : Nat) : Int))) ∧ Hid (Ext w1 wr) ∧ Below w.heap.size w wr) (fun _ i _ => rs.length - (intOf i).toNat)
    case atStart => exact ⟨0, by omega, rfl, Lib.hid (HV2.out.congr (fun s _ => by simp [ownsN])), HE2, HB2.out⟩
    case round =>
      obtain ⟨k, hk, rfl, HVk, HE, hB⟩ := hrel
      have HB := Lib.hid hB
      clear hB
      by_cases hlt : k < rs.length
      · obtain ⟨b, off, rfl, hcell⟩ := HV.out (by intro h; rw [h] at hlt; simp at hlt)
        obtain ⟨y0, y1, y2, y3, ev, y4, hev⟩ := RowAt.ext (Ext.below HB.out) (hcell k hlt)
        obtain ⟨ea, ecap, rfl, -⟩ := hev
        unfold IntAt at y0 y1 y3
        unfold BoolAt at y2
        have hmr := HM.out.2 _ (List.getElem_mem hlt)
        unfold rowMay at hmr
        rw [decide_eq_true_eq] at hmr
        have hst := ownsN_take rs k hlt
        have hqr : q < wr.heap.size := HVk.out.lt
        by_cases ho : rs[k].owner = -1
        · have HST : Hid (∀ s : Nat, ownsN (rs.take (k + 1)) (s : Int) = ownsN (rs.take k) (s : Int)) := Lib.hid (fun s => by rw [hst, if_neg (by omega)]; rfl)
          rw [ho] at y1
          clear hcell hmr hst ho
          go_wp2_with fail
          go_roundw
          case rel => exact ⟨k + 1, by omega, by go_num, Lib.hid (ValRow.congr (g := fun s => .int .i64 ((ownsN (rs.take (k + 1)) (s : Int) : Nat) : Int)) (HVk.out.below (balloc _ _)) (fun s _ => by rw [HST.out])), Lib.hid (HE.out.trans (Ext.alloc _ _)), bthen HB.out (balloc _ _)⟩
          case measure => simp [intOf]; omega
        · obtain ⟨O, hO⟩ := Int.eq_ofNat_of_zero_le (show 0 ≤ rs[k].owner by omega)
          have hOn : O < n := by rw [HNN.out]; omega
          have HST : Hid (∀ s : Nat, ownsN (rs.take (k + 1)) (s : Int) = ownsN (rs.take k) (s : Int) + if s = O then 1 else 0) := Lib.hid (fun s => by
            rw [hst, hO]
            by_cases e : s = O
            · rw [if_pos e, if_pos (by omega)]
            · rw [if_neg e, if_neg (by omega)])
          rw [hO] at y1
          have r0 := HVk.out.cell O hOn
          have r1 := HVk.out.free O
          have hle := ownsN_le (rs.take k) (O : Int)
          have hle2 : (rs.take k).length ≤ k := List.length_take_le _ _
          obtain ⟨N, hN⟩ : ∃ N, N = ownsN (rs.take k) (O : Int) := ⟨_, rfl⟩
          rw [← hN] at r0 hle
          have hNk : N ≤ k := by omega
          have HN := Lib.hid hN
          have hOq : O < q + 1 + O := by omega
          clear hcell hmr hst ho hO hN hle hle2 hOq
          go_wp2_with fail
          go_roundw
          case rel => exact ⟨k + 1, by omega, by go_num, Lib.hid (ValRow.congr (g := fun s => .int .i64 ((ownsN (rs.take (k + 1)) (s : Int) : Nat) : Int)) ((HVk.out.set O _).below (balloc _ _)) (fun s _ => by
            by_cases e : s = O
            · subst e; rw [if_pos rfl, HST.out, if_pos rfl, ← HN.out]; simp
            · rw [if_neg e, HST.out, if_neg e]; rfl)), Lib.hid ((HE.out.set_new hqw1 _ _).trans (Ext.alloc _ _)), bthen (HB.out.setCell (p := ⟨q, O, none⟩) hqw _) (balloc _ _)⟩
          case measure => simp [intOf]; omega
      · obtain rfl : k = rs.length := by omega
        rw [List.take_length] at HVk
        go_wp2_with fail
        refine bodyPost_ret (v := .tuple #[.slice (some ⟨q, 0, none⟩) n n, .int .i64 0]) (by simp [results, Try.results9, go_sem]) rfl ⟨.slice (some ⟨q, 0, none⟩) n n, by rw [HX.out.1], ?_, fun b hb => by simp [Value.ownBlock] at hb; omega, HB.out⟩
        rw [HX.out.2]
        unfold sharesOf
        rw [← HNN.out]
        exact HVk.out.ints (by omega)
end Go.Proofs.Ytfhebonhcolbdaa
