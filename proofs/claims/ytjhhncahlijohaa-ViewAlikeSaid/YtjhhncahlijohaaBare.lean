/- view.bare: a configuration without its low parts' tasks and programs. -/
import Derived.Test.YtjhhncahlijohaaCopyD
set_option linter.unusedVariables false
set_option linter.unusedSimpArgs false
namespace Go.Proofs.Ytjhhncahlijohaa
open Go.RowKit

def bare1 (p : Part) : Part := if p.level = 0 then ⟨p.level, [], []⟩ else p
def bareCfg (c : Config) : Config := ⟨c.frame, c.quiet, c.parts.map bare1, c.windows, c.ports⟩
theorem bare1_level (p : Part) : (bare1 p).level = p.level := by unfold bare1; split <;> rfl
/-- The first k parts are bare. -/
def bareTo (ps : List Part) (k : Nat) (i : Nat) (x : Part) : Part := if i < k then bare1 x else x
def BareRow (W : World) (B : Nat) (v : Value) (k : Nat) (ps : List Part) : Prop :=
  ∃ L, W.ownsRow B 52 3 v ps.length L ∧ ∀ i (hi : i < ps.length), ∃ tv cv, L[i * 3]? = some (.int .i64 ps[i].level) ∧ L[i * 3 + 1]? = some tv ∧ L[i * 3 + 2]? = some cv ∧ PartOf W B tv cv (bareTo ps k i ps[i])
theorem BareRow.of {W : World} {B : Nat} {v : Value} {ps : List Part} (h : CopyRow W W B v ps.length ps) : BareRow W B v 0 ps := by
  obtain ⟨L, h1, h2⟩ := h
  refine ⟨L, h1, fun i hi => ?_⟩
  obtain ⟨tv, cv, a1, a2, a3, a4, -⟩ := h2 i hi
  exact ⟨tv, cv, a1, a2, a3, a4 hi⟩
theorem BareRow.apart {W W' : World} {B k : Nat} {v : Value} {ps : List Part} (h : BareRow W B v k ps) {r : Option Nat} {t : TypeId} (hg : W.grownBy W' r) (hr : ∀ g, r = some g → Typed W g t) (h1 : 52 ≠ t) (h2 : 48 ≠ t) (h3 : 54 ≠ t) : BareRow W' B v k ps := by
  obtain ⟨L, l1, l2⟩ := h
  refine ⟨L, own_apart l1 hg hr h1, fun i hi => ?_⟩
  obtain ⟨tv, cv, a1, a2, a3, a4⟩ := l2 i hi
  exact ⟨tv, cv, a1, a2, a3, own_apart a4.1 hg hr h2, own_apart a4.2 hg hr h3⟩
theorem BareRow.skip {W : World} {B k : Nat} {v : Value} {ps : List Part} (h : BareRow W B v k ps) (hk : k < ps.length) (hl : ps[k].level ≠ 0) : BareRow W B v (k + 1) ps := by
  obtain ⟨L, h1, h2⟩ := h
  refine ⟨L, h1, fun i hi => ?_⟩
  obtain ⟨tv, cv, a1, a2, a3, a4⟩ := h2 i hi
  refine ⟨tv, cv, a1, a2, a3, ?_⟩
  have e : bareTo ps (k + 1) i ps[i] = bareTo ps k i ps[i] := by
    unfold bareTo
    by_cases e : i = k
    · subst e
      rw [if_pos (by omega), if_neg (by omega)]
      unfold bare1
      rw [if_neg hl]
    · by_cases h : i < k
      · rw [if_pos (by omega), if_pos h]
      · rw [if_neg (by omega), if_neg h]
  rw [e]
  exact a4
theorem BareRow.strip {W : World} {B k q cap : Nat} {ps : List Part} (h : BareRow W B (.slice (some ⟨q, 0, none⟩) ps.length cap) k ps) (hk : k < ps.length) (hl : ps[k].level = 0) :
    BareRow ((W.setCell ⟨q, k * 3 + 1, none⟩ (.slice none 0 0)).setCell ⟨q, k * 3 + 2, none⟩ (.slice none 0 0)) B (.slice (some ⟨q, 0, none⟩) ps.length cap) (k + 1) ps := by
  obtain ⟨L, h1, h2⟩ := h
  have hty : ∀ g, some q = some g → Typed W g 52 := fun g hg => by injection hg with hg; rw [← hg]; exact own_typed h1 rfl
  have hgr : W.grownBy ((W.setCell ⟨q, k * 3 + 1, none⟩ (.slice none 0 0)).setCell ⟨q, k * 3 + 2, none⟩ (.slice none 0 0)) (some q) := grown_trans (set_grown _ _ _ _) (set_grown _ _ _ _)
  have hl' : L.length = ps.length * 3 := h1.1
  refine ⟨_, own_set (own_set h1 _ _) _ _, fun i hi => ?_⟩
  obtain ⟨tv, cv, a1, a2, a3, a4⟩ := h2 i hi
  by_cases e : i = k
  · subst e
    refine ⟨.slice none 0 0, .slice none 0 0, ?_, ?_, ?_, ?_⟩
    · rw [List.getElem?_set_ne (by omega), List.getElem?_set_ne (by omega)]; exact a1
    · rw [List.getElem?_set_ne (by omega), List.getElem?_set_self (by omega)]
    · rw [List.getElem?_set_self (by rw [List.length_set]; omega)]
    · have e : bareTo ps (i + 1) i ps[i] = ⟨ps[i].level, [], []⟩ := by unfold bareTo bare1; rw [if_pos (by omega), if_pos hl]
      rw [e]
      exact ⟨World.ownsRow_nil _ _ _ _, World.ownsRow_nil _ _ _ _⟩
  · have e2 : bareTo ps (k + 1) i ps[i] = bareTo ps k i ps[i] := by
      unfold bareTo
      by_cases h : i < k
      · rw [if_pos (by omega), if_pos h]
      · rw [if_neg (by omega), if_neg h]
    rw [e2]
    refine ⟨tv, cv, ?_, ?_, ?_, a4.apart hgr hty⟩
    · rw [List.getElem?_set_ne (by omega), List.getElem?_set_ne (by omega)]; exact a1
    · rw [List.getElem?_set_ne (by omega), List.getElem?_set_ne (by omega)]; exact a2
    · rw [List.getElem?_set_ne (by omega), List.getElem?_set_ne (by omega)]; exact a3
theorem BareRow.cells {W : World} {B k q cap : Nat} {ps : List Part} (h : BareRow W B (.slice (some ⟨q, 0, none⟩) ps.length cap) k ps) (hk : k < ps.length) :
    W.cell? ⟨q, k * 3, none⟩ = some (.int .i64 ps[k].level) ∧ (∃ tv, W.cell? ⟨q, k * 3 + 1, none⟩ = some tv) ∧ (∃ cv, W.cell? ⟨q, k * 3 + 2, none⟩ = some cv) ∧ (∀ j, W.frozen? ⟨q, j, none⟩ = false) ∧ Typed W q 52 ∧ B ≤ q := by
  obtain ⟨L, h1, h2⟩ := h
  obtain ⟨tv, cv, a1, a2, a3, -⟩ := h2 k hk
  obtain ⟨cur, hcur⟩ := own_typed h1 (g := q) rfl
  have hl : L.length = ps.length * 3 := h1.1
  exact ⟨by rw [h1.cellAt _ (by omega)]; exact a1, ⟨tv, by rw [h1.cellAt _ (by omega)]; exact a2⟩, ⟨cv, by rw [h1.cellAt _ (by omega)]; exact a3⟩, fun j => thaw hcur j, ⟨_, hcur⟩, (h1.lt q rfl).1⟩
theorem BareRow.parts {W : World} {B : Nat} {v : Value} {ps : List Part} (h : BareRow W B v ps.length ps) (h1 : ps.length * 56 ≤ 140737488351232) (h2 : ∀ x ∈ ps, x.tasks.length * 48 ≤ 140737488351232 ∧ x.code.length * 16 ≤ 140737488351232) : PartsV W v (ps.map bare1) := by
  obtain ⟨L, l1, l2⟩ := h
  by_cases hx : ps = []
  · subst hx
    rcases l1.2 with ⟨rfl, _⟩ | ⟨g, cap', cur, rfl, _, _, hn, hm, _⟩
    · exact slice0 _ _ _ _
    · exact ⟨_, cap', rfl, by simp, hn, hm, fun h => absurd rfl h⟩
  · have hpos : 0 < ps.length := List.length_pos_iff.2 hx
    obtain ⟨g, cap', rfl, hg, hn, hm⟩ := ownsRow_some l1 hpos
    have hl : L.length = ps.length * 3 := l1.1
    refine ⟨_, cap', by rw [List.length_map], by rw [List.length_map]; exact h1, by rw [List.length_map]; exact hn, hm, fun _ => ⟨g, 0, rfl, fun i hi => ?_⟩⟩
    have hi : i < ps.length := by simpa using hi
    obtain ⟨tv, cv, a1, a2, a3, a4⟩ := l2 i hi
    have hsz := h2 _ (List.getElem_mem hi)
    have e : bareTo ps ps.length i ps[i] = bare1 ps[i] := by unfold bareTo; rw [if_pos hi]
    rw [e] at a4
    have hs2 : (bare1 ps[i]).tasks.length * 48 ≤ 140737488351232 ∧ (bare1 ps[i]).code.length * 16 ≤ 140737488351232 := by
      unfold bare1
      split
      · simp
      · exact hsz
    rw [List.getElem_map]
    refine ⟨?_, tv, cv, ?_, ?_, ⟨flatTask.slice a4.1 hs2.1, flatInstr.slice a4.2 hs2.2⟩⟩
    · unfold IntAt; rw [bare1_level, Nat.zero_add, l1.cellAt _ (by omega)]; exact a1
    · rw [Nat.zero_add, l1.cellAt _ (by omega)]; exact a2
    · rw [Nat.zero_add, l1.cellAt _ (by omega)]; exact a3
theorem BareRow.below {W W' : World} {B k : Nat} {v : Value} {ps : List Part} (h : BareRow W B v k ps) (hb : Below W.heap.size W W') : BareRow W' B v k ps := by
  obtain ⟨L, l1, l2⟩ := h
  refine ⟨L, Below.kept l1 hb, fun i hi => ?_⟩
  obtain ⟨tv, cv, a1, a2, a3, a4⟩ := l2 i hi
  exact ⟨tv, cv, a1, a2, a3, a4.below hb⟩
/-- A bare copy: its rows are its own. -/
structure BareOf (W : World) (B : Nat) (pv wv ov : Value) (c : Config) : Prop where
  parts : BareRow W B pv c.parts.length c.parts
  windows : W.ownsRow B 44 3 wv c.windows.length (c.windows.flatMap windowCells)
  ports : W.ownsRow B 46 4 ov c.ports.length (c.ports.flatMap portCells)
  size : c.parts.length * 56 ≤ 140737488351232 ∧ c.windows.length * 24 ≤ 140737488351232 ∧ c.ports.length * 32 ≤ 140737488351232 ∧ ∀ x ∈ c.parts, x.tasks.length * 48 ≤ 140737488351232 ∧ x.code.length * 16 ≤ 140737488351232
theorem BareOf.is {W : World} {B : Nat} {pv wv ov : Value} {c : Config} (h : BareOf W B pv wv ov c) : CfgIs W pv wv ov (bareCfg c) :=
  ⟨h.parts.parts h.size.1 h.size.2.2.2, flatWindow.slice h.windows h.size.2.1, flatPort.slice h.ports h.size.2.2.1⟩
theorem BareOf.apart {W W' : World} {B : Nat} {pv wv ov : Value} {c : Config} (h : BareOf W B pv wv ov c) {r : Option Nat} (hg : W.grownBy W' r) (hr : ∀ g, r = some g → Typed W g 26) : BareOf W' B pv wv ov c :=
  ⟨h.parts.apart hg hr (by decide) (by decide) (by decide), own_apart h.windows hg hr (by decide), own_apart h.ports hg hr (by decide), h.size⟩
theorem BareOf.below {W W' : World} {B : Nat} {pv wv ov : Value} {c : Config} (h : BareOf W B pv wv ov c) (hb : Below W.heap.size W W') : BareOf W' B pv wv ov c :=
  ⟨h.parts.below hb, Below.kept h.windows hb, Below.kept h.ports hb, h.size⟩
theorem BareOf.shape {W : World} {B : Nat} {pv wv ov : Value} {c : Config} (h : BareOf W B pv wv ov c) : ∃ a1 a2 a3 a4 a5 a6, pv = .slice a1 c.parts.length a2 ∧ wv = .slice a3 c.windows.length a4 ∧ ov = .slice a5 c.ports.length a6 := by
  obtain ⟨L, l1, -⟩ := h.parts
  obtain ⟨a1, a2, h1⟩ := own_shape l1
  obtain ⟨a3, a4, h2⟩ := own_shape h.windows
  obtain ⟨a5, a6, h3⟩ := own_shape h.ports
  exact ⟨a1, a2, a3, a4, a5, a6, h1, h2, h3⟩
theorem BareOf.lower {W : World} {B B' : Nat} {pv wv ov : Value} {c : Config} (h : BareOf W B pv wv ov c) (hb : B' ≤ B) : BareOf W B' pv wv ov c := by
  obtain ⟨⟨L, l1, l2⟩, h2, h3, h4⟩ := h
  refine ⟨⟨L, own_lower l1 hb, fun i hi => ?_⟩, own_lower h2 hb, own_lower h3 hb, h4⟩
  obtain ⟨tv, cv, a1, a2, a3, a4⟩ := l2 i hi
  exact ⟨tv, cv, a1, a2, a3, own_lower a4.1 hb, own_lower a4.2 hb⟩
set_option maxRecDepth 100000 in
set_option maxHeartbeats 2000000 in
theorem bare_any (c : Config) (v : Value) (w : World) (hc : CfgV w v c) :
    Calls Try.prog 16 #[v] w fun e w' => ∃ pv wv ov, e = .returned (.agg #[.int .i64 c.frame, .int .i64 c.quiet, pv, wv, ov]) ∧ BareOf w' w.heap.size pv wv ov c ∧ Below w.heap.size w w' := by
  obtain ⟨pv, wv, ov, rfl, hcfg⟩ := hc
  have HSZ := Lib.hid (cfg_sizes hcfg)
  have hcl : c.parts.length ≤ 2513169434845 := by have := (cfg_sizes hcfg).1; omega
  obtain ⟨qa, qk, ra, rk, sa, sk, rfl, rfl, rfl⟩ := hcfg.shape
  obtain ⟨wa, hw_wa⟩ : ∃ wa, wa = w.alloc (.cells #[.int .i64 c.frame, .int .i64 c.quiet, .slice qa c.parts.length qk, .slice ra c.windows.length rk, .slice sa c.ports.length sk] 26) := ⟨_, rfl⟩
  obtain ⟨ga, hg_ga⟩ : ∃ ga, ga = w.heap.size := ⟨_, rfl⟩
  have hb_wa : Below w.heap.size w wa := by rw [hw_wa]; exact balloc _ _
  have hk_ga : wa.heap[ga]? = some (.cells #[.int .i64 c.frame, .int .i64 c.quiet, .slice qa c.parts.length qk, .slice ra c.windows.length rk, .slice sa c.ports.length sk] 26 (0, 0)) := by rw [hw_wa, hg_ga]; exact blk_new _ _
  have hs_wa : wa.heap.size = w.heap.size + 1 := by rw [hw_wa]; simp
  obtain ⟨wb, hw_wb⟩ : ∃ wb, wb = wa.alloc (.cells #[.int .i64 0, .int .i64 0, .slice none 0 0, .slice none 0 0, .slice none 0 0] 26) := ⟨_, rfl⟩
  obtain ⟨gb, hg_gb⟩ : ∃ gb, gb = wa.heap.size := ⟨_, rfl⟩
  have hb_wb : Below wa.heap.size wa wb := by rw [hw_wb]; exact balloc _ _
  have hk_gb : wb.heap[gb]? = some (.cells #[.int .i64 0, .int .i64 0, .slice none 0 0, .slice none 0 0, .slice none 0 0] 26 (0, 0)) := by rw [hw_wb, hg_gb]; exact blk_new _ _
  have hs_wb : wb.heap.size = wa.heap.size + 1 := by rw [hw_wb]; simp
  have hka := keep_at hk_ga hb_wb
  have HB := Lib.hid (bthen hb_wa hb_wb)
  have HK := Lib.hid (And.intro hka hk_gb)
  have HG := Lib.hid (show w.heap.size ≤ ga ∧ ga < gb ∧ gb < wb.heap.size by omega)
  have HC := Lib.hid (hcfg.ext (Ext.below HB.out))
  have y0 := BlockIs.of hka 0 _ rfl
  have y1 := BlockIs.of hka 1 _ rfl
  have y2 := BlockIs.of hka 2 _ rfl
  have y3 := BlockIs.of hka 3 _ rfl
  have y4 := BlockIs.of hka 4 _ rfl
  clear hcfg hka hk_ga hk_gb hb_wa hb_wb
  go_enter Try.func16, Try.ntmps16
  go_wp2_with fail
  rw [← hw_wa, ← hw_wb]
  (try rw [← hs_wa])
  (try rw [← hg_gb])
  (try rw [← hg_ga])
  clear hw_wa hw_wb hg_ga hg_gb hs_wa hs_wb
  refine (copyC_any c _ _ ⟨_, _, _, rfl, HC.out⟩).mono ?_
  rintro e w1 ⟨pn, wn, on, rfl, hof, hb1⟩
  obtain ⟨L, l1, -⟩ := hof.parts
  obtain ⟨pa, pk, rfl⟩ := own_shape l1
  have hws := hof.windows
  obtain ⟨wa', wk', rfl⟩ := own_shape hws
  have hos := hof.ports
  obtain ⟨oa', ok', rfl⟩ := own_shape hos
  clear y0 y1 y2 y3 y4 hws hos l1
  have hk1 := keep_at HK.out.1 hb1
  have hz1 := keep_at HK.out.2 hb1
  obtain ⟨wc, hw_wc⟩ : ∃ wc, wc = put5 w1 ga (.int .i64 c.frame) (.int .i64 c.quiet) (.slice pa c.parts.length pk) (.slice wa' c.windows.length wk') (.slice oa' c.ports.length ok') := ⟨_, rfl⟩
  have hk_wc := put5_at hk1 (.int .i64 c.frame) (.int .i64 c.quiet) (.slice pa c.parts.length pk) (.slice wa' c.windows.length wk') (.slice oa' c.ports.length ok')
  have hg_wc := put5_grown w1 ga (.int .i64 c.frame) (.int .i64 c.quiet) (.slice pa c.parts.length pk) (.slice wa' c.windows.length wk') (.slice oa' c.ports.length ok')
  rw [← hw_wc] at hk_wc hg_wc
  unfold put5 at hw_wc
  have o_wc_0 := BlockIs.of hk1 0 _ rfl
  have o_wc_1 := BlockIs.of hk1 1 _ rfl
  have o_wc_2 := BlockIs.of hk1 2 _ rfl
  have o_wc_3 := BlockIs.of hk1 3 _ rfl
  have o_wc_4 := BlockIs.of hk1 4 _ rfl
  have f_wc := thaw hk1
  have e_wc_0 := BlockIs.of hk_wc 0 _ rfl
  have e_wc_1 := BlockIs.of hk_wc 1 _ rfl
  have e_wc_2 := BlockIs.of hk_wc 2 _ rfl
  have e_wc_3 := BlockIs.of hk_wc 3 _ rfl
  have e_wc_4 := BlockIs.of hk_wc 4 _ rfl
  have hty : ∀ g, some ga = some g → Typed w1 g 26 := fun g hg => by injection hg with hg; rw [← hg]; exact ⟨_, hk1⟩
  have HRO : Hid (BareRow wc wb.heap.size (.slice pa c.parts.length pk) 0 c.parts) := Lib.hid ((BareRow.of hof.parts).apart hg_wc hty (by decide) (by decide) (by decide))
  have HWO : Hid (wc.ownsRow wb.heap.size 44 3 (.slice wa' c.windows.length wk') c.windows.length (c.windows.flatMap windowCells) ∧ wc.ownsRow wb.heap.size 46 4 (.slice oa' c.ports.length ok') c.ports.length (c.ports.flatMap portCells)) := Lib.hid ⟨own_apart hof.windows hg_wc hty (by decide), own_apart hof.ports hg_wc hty (by decide)⟩
  have HKC := Lib.hid hk_wc
  have HZC := Lib.hid ((hg_wc.block _ (lt_of_block hz1) (by intro e; injection e with e; have := HG.out; omega)).trans hz1)
  have HBC := Lib.hid (bput (bthen HB.out hb1) hg_wc HG.out.1 (Nat.le_refl _))
  clear hof hb1 hk1 hz1 hk_wc hg_wc hty HK HC HB
  go_wp2_with (first | (rw [← hw_wc]; clear hw_wc) | fail)
  clear o_wc_0 o_wc_1 o_wc_2 o_wc_3 o_wc_4 f_wc e_wc_0 e_wc_1 e_wc_2 e_wc_3 e_wc_4
  go_loopw [9] (fun i wr => ∃ k : Nat, k ≤ c.parts.length ∧ i = .int .i64 k ∧ Hid (wr.heap[ga]? = some (.cells #[.int .i64 c.frame, .int .i64 c.quiet, .slice pa c.parts.length pk, .slice wa' c.windows.length wk', .slice oa' c.ports.length ok'] 26 (0, 0))) ∧ Hid (wr.heap[gb]? = some (.cells #[.int .i64 0, .int .i64 0, .slice none 0 0, .slice none 0 0, .slice none 0 0] 26 (0, 0))) ∧ Hid (BareRow wr wb.heap.size (.slice pa c.parts.length pk) k c.parts) ∧ Hid (wr.ownsRow wb.heap.size 44 3 (.slice wa' c.windows.length wk') c.windows.length (c.windows.flatMap windowCells) ∧ wr.ownsRow wb.heap.size 46 4 (.slice oa' c.ports.length ok') c.ports.length (c.ports.flatMap portCells)) ∧ Below w.heap.size w wr) (fun i _ => c.parts.length - (intOf i).toNat)
  case atStart => exact ⟨0, by omega, rfl, HKC, HZC, HRO, HWO, HBC.out⟩
  case round =>
    obtain ⟨k, hk, rfl, HKr, HZr, HRr, HWr, hB⟩ := hrel
    have HBr := Lib.hid hB
    clear hB
    have g2 := BlockIs.of HKr.out 2 _ rfl
    by_cases hlt : k < c.parts.length
    · obtain ⟨L', l1, -⟩ := HRr.out
      obtain ⟨q, cap', e, -⟩ := ownsRow_some l1 (by omega)
      injection e with e _ e'
      subst e; subst e'
      clear l1
      obtain ⟨p0, ⟨tv, p1⟩, ⟨cv, p2⟩, hf, hty, hqB⟩ := HRr.out.cells hlt
      by_cases hl : c.parts[k].level = 0
      · have hl' : (c.parts[k].level == 0) = true := by simpa using hl
        have HL := Lib.hid hl
        have f1 := hf (k * 3 + 1)
        have f2 := hf (k * 3 + 2)
        have hne : ga ≠ q := by rintro rfl; obtain ⟨cur, h⟩ := hty; rw [HKr.out] at h; injection h with h; injection h with _ h; revert h; decide
        have hne' : gb ≠ q := by rintro rfl; obtain ⟨cur, h⟩ := hty; rw [HZr.out] at h; injection h with h; injection h with _ h; revert h; decide
        have HTY := Lib.hid (show (∀ g, some q = some g → Typed wr g 52) ∧ w.heap.size ≤ q from ⟨fun g hg => by injection hg with hg; rw [← hg]; exact hty, by have := HG.out; omega⟩)
        clear hl hf hty hqB
        go_wp2_with fail
        have g2s : (wr.setCell ⟨q, k * 3 + 1, none⟩ (.slice none 0 0)).cell? ⟨ga, 2, none⟩ = some (.slice (some ⟨q, 0, none⟩) c.parts.length pk) := by rw [World.cell?_setCell_other _ _ _ _ (by intro e; injection e with e; omega)]; exact g2
        have g2t : ((wr.setCell ⟨q, k * 3 + 1, none⟩ (.slice none 0 0)).setCell ⟨q, k * 3 + 2, none⟩ (.slice none 0 0)).cell? ⟨ga, 2, none⟩ = some (.slice (some ⟨q, 0, none⟩) c.parts.length pk) := by rw [World.cell?_setCell_other _ _ _ _ (by intro e; injection e with e; omega)]; exact g2s
        go_region_held3 (fun w' => w'.cell? ⟨ga, 2, none⟩ = some (.slice (some ⟨q, 0, none⟩) c.parts.length pk)) (first | exact g2 | exact g2s | exact g2t) (fail)
        go_wp2_with fail
        have HN := Lib.hid (HRr.out.strip hlt HL.out)
        have hgr : wr.grownBy ((wr.setCell ⟨q, k * 3 + 1, none⟩ (.slice none 0 0)).setCell ⟨q, k * 3 + 2, none⟩ (.slice none 0 0)) (some q) := grown_trans (set_grown _ _ _ _) (set_grown _ _ _ _)
        obtain ⟨wd, hwd⟩ : ∃ wd, wd = ((wr.setCell ⟨q, k * 3 + 1, none⟩ (.slice none 0 0)).setCell ⟨q, k * 3 + 2, none⟩ (.slice none 0 0)) := ⟨_, rfl⟩
        have d1 := set_at (q := q) (j := k * 3 + 2) (.slice none 0 0) (set_at (q := q) (j := k * 3 + 1) (.slice none 0 0) HKr.out hne) hne
        have d2 := set_at (q := q) (j := k * 3 + 2) (.slice none 0 0) (set_at (q := q) (j := k * 3 + 1) (.slice none 0 0) HZr.out hne') hne'
        have d3 := own_apart HWr.out.1 hgr HTY.out.1 (by decide)
        have d4 := own_apart HWr.out.2 hgr HTY.out.1 (by decide)
        have d5 := HN.out
        have d6 := bput HBr.out hgr HTY.out.2 (Nat.le_refl _)
        rw [← hwd] at d1 d2 d3 d4 d5 d6 ⊢
        have D := Lib.hid (And.intro d1 (And.intro d2 (And.intro d3 (And.intro d4 (And.intro d5 d6)))))
        clear d1 d2 d3 d4 d5 d6 hwd HN hgr g2s g2t p0 p1 p2 f1 f2
        obtain ⟨wx, hwx, hhx, hbx⟩ : ∃ wx : World, wx = wd.drew ∧ wx.heap = wd.heap ∧ Below wd.heap.size wd wx := ⟨_, rfl, rfl, below_drew (Below.refl _ _)⟩
        rw [← hwx]
        have HX := Lib.hid (show Hid (wx.heap[ga]? = _) ∧ Hid (wx.heap[gb]? = _) ∧ Hid (BareRow wx wb.heap.size (.slice (some ⟨q, 0, none⟩) c.parts.length pk) (k + 1) c.parts) ∧ Hid (wx.ownsRow _ _ _ _ _ _ ∧ wx.ownsRow _ _ _ _ _ _) ∧ Below w.heap.size w wx from
          ⟨Lib.hid (keep_at D.out.1 hbx), Lib.hid (keep_at D.out.2.1 hbx), Lib.hid (by have := D.out.2.2.2.2.1; rw [hwx]; exact this), Lib.hid ⟨Below.kept D.out.2.2.1 hbx, Below.kept D.out.2.2.2.1 hbx⟩, bthen D.out.2.2.2.2.2 hbx⟩)
        clear hwx hhx hbx
        go_roundw
        case rel => exact ⟨k + 1, by omega, by go_num, HX.out.1, HX.out.2.1, HX.out.2.2.1, HX.out.2.2.2.1, HX.out.2.2.2.2⟩
        case measure => simp [intOf]; omega
      · have hl' : (c.parts[k].level == 0) = false := by simpa using hl
        have HS := Lib.hid (HRr.out.skip hlt hl)
        clear hl hf hty p1 p2
        go_wp2_with fail
        go_roundw
        case rel => exact ⟨k + 1, by omega, by go_num, HKr, HZr, HS, HWr, HBr.out⟩
        case measure => simp [intOf]; omega
    · obtain rfl : k = c.parts.length := by omega
      have hkz := HZr.out
      have g0 := BlockIs.of HKr.out 0 _ rfl
      have g1 := BlockIs.of HKr.out 1 _ rfl
      have g3 := BlockIs.of HKr.out 3 _ rfl
      have g4 := BlockIs.of HKr.out 4 _ rfl
      obtain ⟨we, hw_we⟩ : ∃ we, we = put5 wr gb (.int .i64 c.frame) (.int .i64 c.quiet) (.slice pa c.parts.length pk) (.slice wa' c.windows.length wk') (.slice oa' c.ports.length ok') := ⟨_, rfl⟩
      have hk_we := put5_at hkz (.int .i64 c.frame) (.int .i64 c.quiet) (.slice pa c.parts.length pk) (.slice wa' c.windows.length wk') (.slice oa' c.ports.length ok')
      have hg_we := put5_grown wr gb (.int .i64 c.frame) (.int .i64 c.quiet) (.slice pa c.parts.length pk) (.slice wa' c.windows.length wk') (.slice oa' c.ports.length ok')
      rw [← hw_we] at hk_we hg_we
      unfold put5 at hw_we
      have o_we_0 := BlockIs.of hkz 0 _ rfl
      have o_we_1 := BlockIs.of hkz 1 _ rfl
      have o_we_2 := BlockIs.of hkz 2 _ rfl
      have o_we_3 := BlockIs.of hkz 3 _ rfl
      have o_we_4 := BlockIs.of hkz 4 _ rfl
      have f_we := thaw hkz
      have e_we_0 := BlockIs.of hk_we 0 _ rfl
      have e_we_1 := BlockIs.of hk_we 1 _ rfl
      have e_we_2 := BlockIs.of hk_we 2 _ rfl
      have e_we_3 := BlockIs.of hk_we 3 _ rfl
      have e_we_4 := BlockIs.of hk_we 4 _ rfl
      have HTY : Hid (∀ g, some gb = some g → Typed wr g 26) := Lib.hid (fun g hg => by injection hg with hg; rw [← hg]; exact ⟨_, hkz⟩)
      have HGW := Lib.hid hg_we
      clear hk_we hg_we hkz
      go_wp2_with fail
      rw [← hw_we]
      clear hw_we o_we_0 o_we_1 o_we_2 o_we_3 o_we_4 f_we g0 g1 g2 g3 g4
      refine bodyPost_ret (v := .agg #[.int .i64 c.frame, .int .i64 c.quiet, .slice pa c.parts.length pk, .slice wa' c.windows.length wk', .slice oa' c.ports.length ok']) (by simp [results, Try.results16, go_sem, e_we_0, e_we_1, e_we_2, e_we_3, e_we_4]) rfl ⟨_, _, _, rfl, ?_, bput HBr.out HGW.out (by have := HG.out; omega) (Nat.le_refl _)⟩
      exact BareOf.lower (B := wb.heap.size) ⟨HRr.out.apart HGW.out HTY.out (by decide) (by decide) (by decide), own_apart HWr.out.1 HGW.out HTY.out (by decide), own_apart HWr.out.2 HGW.out HTY.out (by decide), HSZ.out⟩ (by have := HG.out; omega)
end Go.Proofs.Ytjhhncahlijohaa
