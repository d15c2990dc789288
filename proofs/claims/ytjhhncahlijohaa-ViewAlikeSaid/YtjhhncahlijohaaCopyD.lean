/- config.Copy: the walk. -/
import Derived.Test.YtjhhncahlijohaaCopyC
import Derived.Test.YtjhhncahlijohaaEach
import Derived.Deep.RegionHeld3
set_option linter.unusedVariables false
set_option linter.unusedSimpArgs false
namespace Go.Proofs.Ytjhhncahlijohaa
open Go.RowKit

theorem Src.ext {w w' : World} {x : Value} {m : Nat} {news : List Value} (h : Src w x m news) (e : Ext w w') : Src w' x m news := by
  rcases h with h | ⟨ad, c, h1, h2⟩
  · exact .inl h
  · exact .inr ⟨ad, c, h1, fun j u hu => e _ _ (h2 j u hu)⟩
structure CopyOf (W : World) (B : Nat) (pv wv ov : Value) (c : Config) : Prop where
  parts : CopyRow W W B pv c.parts.length c.parts
  windows : W.ownsRow B 44 3 wv c.windows.length (c.windows.flatMap windowCells)
  ports : W.ownsRow B 46 4 ov c.ports.length (c.ports.flatMap portCells)
  size : c.parts.length * 56 ≤ 140737488351232 ∧ c.windows.length * 24 ≤ 140737488351232 ∧ c.ports.length * 32 ≤ 140737488351232 ∧ ∀ x ∈ c.parts, x.tasks.length * 48 ≤ 140737488351232 ∧ x.code.length * 16 ≤ 140737488351232
theorem CopyOf.is {W : World} {B : Nat} {pv wv ov : Value} {c : Config} (h : CopyOf W B pv wv ov c) : CfgIs W pv wv ov c :=
  ⟨h.parts.parts h.size.1 h.size.2.2.2, flatWindow.slice h.windows h.size.2.1, flatPort.slice h.ports h.size.2.2.1⟩
theorem cfg_sizes {W : World} {pv wv ov : Value} {c : Config} (h : CfgIs W pv wv ov c) : c.parts.length * 56 ≤ 140737488351232 ∧ c.windows.length * 24 ≤ 140737488351232 ∧ c.ports.length * 32 ≤ 140737488351232 ∧ ∀ x ∈ c.parts, x.tasks.length * 48 ≤ 140737488351232 ∧ x.code.length * 16 ≤ 140737488351232 := by
  obtain ⟨a, cap, -, h1, -, -, h5⟩ := h.parts
  obtain ⟨-, -, -, h2, -⟩ := h.windows
  obtain ⟨-, -, -, h3, -⟩ := h.ports
  refine ⟨h1, h2, h3, fun x hx => ?_⟩
  obtain ⟨i, hi, rfl⟩ := List.getElem_of_mem hx
  obtain ⟨b, off, -, hc⟩ := h5 (by intro e; rw [e] at hi; simp at hi)
  obtain ⟨-, tv, cv, -, -, h6⟩ := hc i hi
  obtain ⟨-, -, -, h7, -⟩ := h6.tasks
  obtain ⟨-, -, -, h8, -⟩ := h6.code
  exact ⟨h7, h8⟩
/-- The copy's parts' row while part k's slices are being written over. -/
def MidRow (w W : World) (B : Nat) (v : Value) (k : Nat) (ps : List Part) (tv cv : Value) : Prop :=
  ∃ L, W.ownsRow B 52 3 v ps.length L ∧ L[k * 3 + 1]? = some tv ∧ L[k * 3 + 2]? = some cv ∧ (∀ h : k < ps.length, L[k * 3]? = some (.int .i64 ps[k].level)) ∧ ∀ i (hi : i < ps.length), i ≠ k → ∃ tv cv, L[i * 3]? = some (.int .i64 ps[i].level) ∧ L[i * 3 + 1]? = some tv ∧ L[i * 3 + 2]? = some cv ∧ (i < k → PartOf W B tv cv ps[i]) ∧ (k ≤ i → PartIs w tv cv ps[i])
theorem MidRow.below {w W W' : World} {B : Nat} {v tv cv : Value} {k : Nat} {ps : List Part} (h : MidRow w W B v k ps tv cv) (hb : Below W.heap.size W W') : MidRow w W' B v k ps tv cv := by
  obtain ⟨L, h1, h2, h3, h0, h4⟩ := h
  refine ⟨L, Below.kept h1 hb, h2, h3, h0, fun i hi hk => ?_⟩
  obtain ⟨tv, cv, a1, a2, a3, a4, a5⟩ := h4 i hi hk
  exact ⟨tv, cv, a1, a2, a3, fun h => (a4 h).below hb, a5⟩
theorem MidRow.cells {w W : World} {B : Nat} {tv cv : Value} {k q cap : Nat} {ps : List Part} (h : MidRow w W B (.slice (some ⟨q, 0, none⟩) ps.length cap) k ps tv cv) (hk : k < ps.length) : W.cell? ⟨q, k * 3 + 1, none⟩ = some tv ∧ W.cell? ⟨q, k * 3 + 2, none⟩ = some cv ∧ (∀ j, W.frozen? ⟨q, j, none⟩ = false) ∧ Typed W q 52 := by
  obtain ⟨L, h1, h2, h3, -⟩ := h
  obtain ⟨cur, hcur⟩ := own_typed h1 (g := q) rfl
  have hl : L.length = ps.length * 3 := h1.1
  exact ⟨by rw [h1.cellAt _ (by omega)]; exact h2, by rw [h1.cellAt _ (by omega)]; exact h3, fun j => thaw hcur j, ⟨_, hcur⟩⟩
theorem MidRow.setT {w W : World} {B : Nat} {tv cv u : Value} {k q cap : Nat} {ps : List Part} (h : MidRow w W B (.slice (some ⟨q, 0, none⟩) ps.length cap) k ps tv cv) (hk : k < ps.length) : MidRow w (W.setCell ⟨q, k * 3 + 1, none⟩ u) B (.slice (some ⟨q, 0, none⟩) ps.length cap) k ps u cv := by
  obtain ⟨L, h1, h2, h3, h0, h4⟩ := h
  have hty : ∀ g, some q = some g → Typed W g 52 := fun g hg => by injection hg with hg; rw [← hg]; exact own_typed h1 rfl
  have hgr := set_grown W q (k * 3 + 1) u
  have hl : L.length = ps.length * 3 := h1.1
  refine ⟨_, own_set h1 _ _, by rw [List.getElem?_set_self (by omega)], by rw [List.getElem?_set_ne (by omega)]; exact h3, fun h => by rw [List.getElem?_set_ne (by omega)]; exact h0 h, fun i hi hik => ?_⟩
  obtain ⟨tv', cv', a1, a2, a3, a4, a5⟩ := h4 i hi hik
  exact ⟨tv', cv', by rw [List.getElem?_set_ne (by omega)]; exact a1, by rw [List.getElem?_set_ne (by omega)]; exact a2, by rw [List.getElem?_set_ne (by omega)]; exact a3, fun h => (a4 h).apart hgr hty, a5⟩
theorem MidRow.setC {w W : World} {B : Nat} {tv cv u : Value} {k q cap : Nat} {ps : List Part} (h : MidRow w W B (.slice (some ⟨q, 0, none⟩) ps.length cap) k ps tv cv) (hk : k < ps.length) (hp : PartOf W B tv u ps[k]) : CopyRow w (W.setCell ⟨q, k * 3 + 2, none⟩ u) B (.slice (some ⟨q, 0, none⟩) ps.length cap) (k + 1) ps := by
  obtain ⟨L, h1, h2, h3, h0, h4⟩ := h
  have hty : ∀ g, some q = some g → Typed W g 52 := fun g hg => by injection hg with hg; rw [← hg]; exact own_typed h1 rfl
  have hgr := set_grown W q (k * 3 + 2) u
  have hl : L.length = ps.length * 3 := h1.1
  refine ⟨_, own_set h1 _ _, fun i hi => ?_⟩
  by_cases e : i = k
  · subst e
    exact ⟨tv, u, by rw [List.getElem?_set_ne (by omega)]; exact h0 hi, by rw [List.getElem?_set_ne (by omega)]; exact h2, by rw [List.getElem?_set_self (by omega)], fun _ => hp.apart hgr hty, fun h => by omega⟩
  · obtain ⟨tv', cv', a1, a2, a3, a4, a5⟩ := h4 i hi e
    exact ⟨tv', cv', by rw [List.getElem?_set_ne (by omega)]; exact a1, by rw [List.getElem?_set_ne (by omega)]; exact a2, by rw [List.getElem?_set_ne (by omega)]; exact a3, fun h => (a4 (by omega)).apart hgr hty, fun h => a5 (by omega)⟩
/-- What each operation of the round's region yields. -/
def CpV (B ga q n pk k : Nat) (tv cv : Value) (x : Part) (i : Nat) (v : Value) (W : World) : Prop :=
  match i with
  | 0 | 3 | 6 | 13 => v = .pointer (some ⟨ga, 2, none⟩)
  | 1 | 4 | 7 | 14 => v = .slice (some ⟨q, 0, none⟩) n pk
  | 2 | 5 | 8 | 15 => v = .int .i64 k
  | 9 | 16 | 20 | 23 => v = .pointer (some ⟨q, k * 3, none⟩)
  | 10 | 21 => v = .pointer (some ⟨q, k * 3 + 1, none⟩)
  | 17 | 24 => v = .pointer (some ⟨q, k * 3 + 2, none⟩)
  | 11 => v = tv
  | 18 => v = cv
  | 12 => W.ownsRow B 48 6 v x.tasks.length (x.tasks.flatMap taskCells)
  | 19 => W.ownsRow B 54 2 v x.code.length (x.code.flatMap instrCells)
  | _ => True
theorem cpV_below {B ga q n pk k : Nat} {tv cv : Value} {x : Part} {W W' : World} (hb : Below W.heap.size W W') : ∀ j u, CpV B ga q n pk k tv cv x j u W → CpV B ga q n pk k tv cv x j u W' := by
  intro j u h
  unfold CpV at h ⊢
  split at h <;> first | exact h | exact Below.kept h hb | trivial
theorem cpV_part {B ga q n pk k : Nat} {tv cv : Value} {x : Part} {W W' : World} {r : Option Nat} (hg : W.grownBy W' r) (hr : ∀ g, r = some g → Typed W g 52) : ∀ j u, CpV B ga q n pk k tv cv x j u W → CpV B ga q n pk k tv cv x j u W' := by
  intro j u h
  unfold CpV at h ⊢
  split at h <;> first | exact h | exact own_apart h hg hr (by decide) | trivial
/-- A struct of five cells that is written over. -/
def put5 (W : World) (b : Nat) (u0 u1 u2 u3 u4 : Value) : World := ((((W.setCell ⟨b, 0, none⟩ u0).setCell ⟨b, 1, none⟩ u1).setCell ⟨b, 2, none⟩ u2).setCell ⟨b, 3, none⟩ u3).setCell ⟨b, 4, none⟩ u4
theorem put5_at {W : World} {b : Nat} {a0 a1 a2 a3 a4 : Value} {t : TypeId} (h : W.heap[b]? = some (.cells #[a0, a1, a2, a3, a4] t (0, 0))) (u0 u1 u2 u3 u4 : Value) : (put5 W b u0 u1 u2 u3 u4).heap[b]? = some (.cells #[u0, u1, u2, u3, u4] t (0, 0)) :=
  blk_set (blk_set (blk_set (blk_set (blk_set h 0 u0) 1 u1) 2 u2) 3 u3) 4 u4
theorem put5_grown (W : World) (b : Nat) (u0 u1 u2 u3 u4 : Value) : W.grownBy (put5 W b u0 u1 u2 u3 u4) (some b) :=
  grown_trans (grown_trans (grown_trans (grown_trans (set_grown _ _ _ _) (set_grown _ _ _ _)) (set_grown _ _ _ _)) (set_grown _ _ _ _)) (set_grown _ _ _ _)
theorem CopyRow.self {w W : World} {B : Nat} {v : Value} {ps : List Part} (h : CopyRow w W B v ps.length ps) : CopyRow W W B v ps.length ps := by
  obtain ⟨L, h1, h2⟩ := h
  refine ⟨L, h1, fun i hi => ?_⟩
  obtain ⟨tv, cv, a1, a2, a3, a4, -⟩ := h2 i hi
  exact ⟨tv, cv, a1, a2, a3, a4, fun h => by omega⟩
/-- What each operation of the last region yields. -/
def CqV (B ga : Nat) (wv ov : Value) (c : Config) (i : Nat) (v : Value) (W : World) : Prop :=
  match i with
  | 0 | 6 => v = .pointer (some ⟨ga, 3, none⟩)
  | 3 | 8 => v = .pointer (some ⟨ga, 4, none⟩)
  | 1 => v = wv
  | 4 => v = ov
  | 2 => W.ownsRow B 44 3 v c.windows.length (c.windows.flatMap windowCells)
  | 5 => W.ownsRow B 46 4 v c.ports.length (c.ports.flatMap portCells)
  | _ => True
theorem cqV_below {B ga : Nat} {wv ov : Value} {c : Config} {W W' : World} (hb : Below W.heap.size W W') : ∀ j u, CqV B ga wv ov c j u W → CqV B ga wv ov c j u W' := by
  intro j u h
  unfold CqV at h ⊢
  split at h <;> first | exact h | exact Below.kept h hb | trivial
theorem cqV_cfg {B ga : Nat} {wv ov : Value} {c : Config} {W W' : World} {r : Option Nat} (hg : W.grownBy W' r) (hr : ∀ g, r = some g → Typed W g 26) : ∀ j u, CqV B ga wv ov c j u W → CqV B ga wv ov c j u W' := by
  intro j u h
  unfold CqV at h ⊢
  split at h <;> first | exact h | exact own_apart h hg hr (by decide) | trivial
set_option maxRecDepth 100000 in
set_option maxHeartbeats 2000000 in
theorem copyC_any (c : Config) (v : Value) (w : World) (hc : CfgV w v c) :
    Calls Try.prog 36 #[v] w fun e w' => ∃ pv wv ov, e = .returned (.agg #[.int .i64 c.frame, .int .i64 c.quiet, pv, wv, ov]) ∧ CopyOf w' w.heap.size pv wv ov c ∧ Below w.heap.size w w' := by
  obtain ⟨pv, wv, ov, rfl, hcfg⟩ := hc
  have HSZ := Lib.hid (cfg_sizes hcfg)
  obtain ⟨qa, qk, ra, rk, sa, sk, rfl, rfl, rfl⟩ := hcfg.shape
  have HP := Lib.hid hcfg
  obtain ⟨wa, hw_wa⟩ : ∃ wa, wa = w.alloc (.cells #[.int .i64 c.frame, .int .i64 c.quiet, .slice qa c.parts.length qk, .slice ra c.windows.length rk, .slice sa c.ports.length sk] 26) := ⟨_, rfl⟩
  obtain ⟨ga, hg_ga⟩ : ∃ ga, ga = w.heap.size := ⟨_, rfl⟩
  have hb_wa : Below w.heap.size w wa := by rw [hw_wa]; exact balloc _ _
  have hk_ga : wa.heap[ga]? = some (.cells #[.int .i64 c.frame, .int .i64 c.quiet, .slice qa c.parts.length qk, .slice ra c.windows.length rk, .slice sa c.ports.length sk] 26 (0, 0)) := by rw [hw_wa, hg_ga]; exact blk_new _ _
  have hs_wa : wa.heap.size = w.heap.size + 1 := by rw [hw_wa]; simp
  obtain ⟨wb, hw_wb⟩ : ∃ wb, wb = wa.alloc (.cells #[.int .i64 0, .int .i64 0, .slice none 0 0, .slice none 0 0, .slice none 0 0] 26) := ⟨_, rfl⟩
  obtain ⟨gb, hg_gb⟩ : ∃ gb, gb = wa.heap.size := ⟨_, rfl⟩
  have hb_wb : Below wa.heap.size wa wb := by rw [hw_wb]; exact balloc _ _
  have hk_gb : wb.heap[gb]? = some (.cells #[.int .i64 0, .int .i64 0, .slice none 0 0, .slice none 0 0, .slice none 0 0] 26 (0, 0)) := by rw [hw_wb, hg_gb]; exact blk_new _ _
  have hs_wb : wb.heap.size = wa.heap.size + 1 := by rw [hw_wb]; simp
  have hka := keep_at hk_ga hb_wb
  have HB := Lib.hid (bthen hb_wa hb_wb)
  have HK := Lib.hid (And.intro hka hk_gb)
  have HG := Lib.hid (show w.heap.size ≤ ga ∧ ga < gb ∧ gb < wb.heap.size by omega)
  have y2 := BlockIs.of hka 2 _ rfl
  have f2 := thaw hka 2
  obtain ⟨L, hL1, hL2, hL3, hL4⟩ := parts_raw hcfg.parts
  replace hL3 := hL3.ext (Ext.below HB.out)
  have HL := Lib.hid (And.intro hL1 (And.intro hL2 (And.intro hL3 hL4)))
  have hcs : c.parts.length * 56 ≤ 140737488351232 ∧ c.parts.length ≤ qk ∧ qk ≤ maxLen := by obtain ⟨a, cap, e, h1, h2, h3, -⟩ := hcfg.parts; injection e with _ _ e; subst e; exact ⟨h1, h2, h3⟩
  have HCS := Lib.hid hcs
  have hcl : c.parts.length ≤ 2513169434845 := by omega
  clear hcfg hka hk_ga hk_gb hb_wa hb_wb hL1 hL2 hL3 hL4 hcs
  go_enter Try.func36, Try.ntmps36
  go_wp2_with fail
  rw [← hw_wa, ← hw_wb]
  (try rw [← hs_wa])
  (try rw [← hg_gb])
  (try rw [← hg_ga])
  clear hw_wa hw_wb hg_ga hg_gb hs_wa hs_wb
  refine (clonePart_raw _ c.parts.length _ _ _ L rfl HL.out.2.2.1 HL.out.1 HL.out.2.1 HCS.out.1 HCS.out.2.1 HCS.out.2.2).mono ?_
  rintro e w1 ⟨v', rfl, hown, hb1⟩
  obtain ⟨pa, pk, rfl⟩ := own_shape hown
  have hk1 := keep_at HK.out.1 hb1
  have hz1 := keep_at HK.out.2 hb1
  obtain ⟨wc, hwc⟩ : ∃ wc, wc = w1.setCell ⟨ga, 2, none⟩ (.slice pa c.parts.length pk) := ⟨_, rfl⟩
  have hk2 := blk_set hk1 2 (.slice pa c.parts.length pk)
  have hg2 := set_grown w1 ga 2 (.slice pa c.parts.length pk)
  have hz2 := set_at (q := ga) (j := 2) (.slice pa c.parts.length pk) hz1 (by have := HG.out; omega)
  rw [← hwc] at hk2 hg2 hz2
  have hty : ∀ q, some ga = some q → Typed w1 q 26 := fun q hq => by injection hq with hq; rw [← hq]; exact ⟨_, hk1⟩
  have HR : Hid (CopyRow w wc w.heap.size (.slice pa c.parts.length pk) 0 c.parts) := Lib.hid ⟨L, own_apart (own_lower hown HB.out.size) hg2 hty (by decide), fun i hi => by
    obtain ⟨tv, cv, a1, a2, a3, a4⟩ := HL.out.2.2.2 i hi
    exact ⟨tv, cv, a1, a2, a3, fun h => by omega, fun _ => a4⟩⟩
  have HB2 := Lib.hid (bput (bthen HB.out hb1) hg2 HG.out.1 (Nat.le_refl _))
  have HK2 : Hid (wc.heap[ga]? = some (.cells #[.int .i64 c.frame, .int .i64 c.quiet, .slice pa c.parts.length pk, .slice ra c.windows.length rk, .slice sa c.ports.length sk] 26 (0, 0))) := Lib.hid hk2
  have HZ2 := Lib.hid hz2
  have y2' := BlockIs.of hk1 2 _ rfl
  have f2' := thaw hk1 2
  have HY2 := Lib.hid (BlockIs.of HK2.out 2 _ rfl)
  have u2 := HY2.out
  clear hown hb1 hk1 hz1 hk2 hg2 hz2 hty y2 f2 HK
  go_wp2_with (first | (rw [← hwc]; clear hwc) | fail)
  clear y2' f2' u2
  go_loopw [11] (fun i wr => ∃ k : Nat, k ≤ c.parts.length ∧ i = .int .i64 k ∧ Hid (wr.heap[ga]? = some (.cells #[.int .i64 c.frame, .int .i64 c.quiet, .slice pa c.parts.length pk, .slice ra c.windows.length rk, .slice sa c.ports.length sk] 26 (0, 0))) ∧ Hid (wr.heap[gb]? = some (.cells #[.int .i64 0, .int .i64 0, .slice none 0 0, .slice none 0 0, .slice none 0 0] 26 (0, 0))) ∧ Hid (CopyRow w wr w.heap.size (.slice pa c.parts.length pk) k c.parts) ∧ Below w.heap.size w wr) (fun i _ => c.parts.length - (intOf i).toNat)
  case atStart => exact ⟨0, by omega, rfl, HK2, HZ2, HR, HB2.out⟩
  case round =>
    obtain ⟨k, hk, rfl, HKr, HZr, HRr, hB⟩ := hrel
    have HBr := Lib.hid hB
    clear hB
    by_cases hlt : k < c.parts.length
    · obtain ⟨L', l1, l2⟩ := HRr.out
      obtain ⟨q, cap', e, hq0, hq1, hq2⟩ := ownsRow_some l1 (by omega)
      injection e with e _ e'
      subst e; subst e'
      obtain ⟨tv, cv, a1, a2, a3, -, a5⟩ := l2 k hlt
      obtain ⟨curq, hcurq⟩ := own_typed l1 (g := q) rfl
      have hl' : L'.length = c.parts.length * 3 := l1.1
      have p1 : wr.cell? ⟨q, k * 3 + 1, none⟩ = some tv := by rw [l1.cellAt _ (by omega)]; exact a2
      have p2 : wr.cell? ⟨q, k * 3 + 2, none⟩ = some cv := by rw [l1.cellAt _ (by omega)]; exact a3
      have hpi := a5 (Nat.le_refl k)
      have HPI := Lib.hid hpi
      obtain ⟨ta, tk, rfl, -⟩ := hpi.tasks
      obtain ⟨ca, ck, rfl, -⟩ := hpi.code
      have g2 := BlockIs.of HKr.out 2 _ rfl
      have q1 := thaw hcurq (k * 3 + 1)
      have q2 := thaw hcurq (k * 3 + 2)
      have HQT := Lib.hid (show Typed wr q 52 from ⟨_, hcurq⟩)
      have HQ0 := Lib.hid hq0
      have HMR0 : Hid (MidRow w wr w.heap.size (.slice (some ⟨q, 0, none⟩) c.parts.length pk) k c.parts (.slice ta c.parts[k].tasks.length tk) (.slice ca c.parts[k].code.length ck)) := Lib.hid ⟨L', l1, a2, a3, fun _ => a1, fun i hi hik => l2 i hi⟩
      clear l1 l2 a1 a2 a3 a5 hpi hcurq hl' hq0 hq1 hq2
      have HMR : Hid (MidRow w wr.drew w.heap.size (.slice (some ⟨q, 0, none⟩) c.parts.length pk) k c.parts (.slice ta c.parts[k].tasks.length tk) (.slice ca c.parts[k].code.length ck)) := HMR0
      go_wp2_with fail
      refine region_each_lit rfl (by simp) (by kernel_rfl) (fun _ => none) (CpV w.heap.size ga q c.parts.length pk k (.slice ta c.parts[k].tasks.length tk) (.slice ca c.parts[k].code.length ck) c.parts[k]) 22 (fun bb W => Below w.heap.size w W ∧ W.heap[ga]? = some (.cells #[.int .i64 c.frame, .int .i64 c.quiet, .slice (some ⟨q, 0, none⟩) c.parts.length pk, .slice ra c.windows.length rk, .slice sa c.ports.length sk] 26 (0, 0)) ∧ W.heap[gb]? = some (.cells #[.int .i64 0, .int .i64 0, .slice none 0 0, .slice none 0 0, .slice none 0 0] 26 (0, 0)) ∧ ∃ tv, MidRow w W w.heap.size (.slice (some ⟨q, 0, none⟩) c.parts.length pk) k c.parts tv (.slice ca c.parts[k].code.length ck) ∧ (bb = true → tv = .slice ta c.parts[k].tasks.length tk) ∧ (bb = false → W.ownsRow w.heap.size 48 6 tv c.parts[k].tasks.length (c.parts[k].tasks.flatMap taskCells))) ⟨below_drew HBr.out, HKr.out, HZr.out, _, HMR.out, fun _ => rfl, fun h => by simp at h⟩ ?_ ?_
      · simp only [List.dropLast, List.map, putAll, Act.put, Each, List.setIfInBounds_toArray, List.set_cons_succ, List.set_cons_zero, Nat.reduceAdd, Nat.reduceEqDiff, reduceIte]
        refine ⟨?_, ?_, ?_, ?_, ?_, ?_, ?_, ?_, ?_, ?_, ?_, ?_, ?_, ?_, ?_, ?_, ?_, ?_, ?_, ?_, ?_, ?_, ?_, ?_, ?_, trivial⟩
        · intro vs W bb hb1 hb2 hG hr K' hK
          have HK := Lib.hid hK
          clear hK
          go_simp
          exact HK.out _ W hG (fun _ _ _ _ _ h => h) rfl
        · intro vs W bb hb1 hb2 hG hr K' hK
          have r0 : vs 0 = .pointer (some ⟨ga, 2, none⟩) := hr 0 rfl (.inl trivial)
          have z0 : W.cell? ⟨ga, 2, none⟩ = some (.slice (some ⟨q, 0, none⟩) c.parts.length pk) := BlockIs.of hG.2.1 2 _ rfl
          simp only [r0] at hK ⊢
          have HK := Lib.hid hK
          clear hK
          go_simp
          exact HK.out _ W hG (fun _ _ _ _ _ h => h) rfl
        · intro vs W bb hb1 hb2 hG hr K' hK
          have HK := Lib.hid hK
          clear hK
          go_simp
          exact HK.out _ W hG (fun _ _ _ _ _ h => h) rfl
        · intro vs W bb hb1 hb2 hG hr K' hK
          have HK := Lib.hid hK
          clear hK
          go_simp
          exact HK.out _ W hG (fun _ _ _ _ _ h => h) rfl
        · intro vs W bb hb1 hb2 hG hr K' hK
          have r3 : vs 3 = .pointer (some ⟨ga, 2, none⟩) := hr 3 rfl (.inl trivial)
          have z0 : W.cell? ⟨ga, 2, none⟩ = some (.slice (some ⟨q, 0, none⟩) c.parts.length pk) := BlockIs.of hG.2.1 2 _ rfl
          simp only [r3] at hK ⊢
          have HK := Lib.hid hK
          clear hK
          go_simp
          exact HK.out _ W hG (fun _ _ _ _ _ h => h) rfl
        · intro vs W bb hb1 hb2 hG hr K' hK
          have HK := Lib.hid hK
          clear hK
          go_simp
          exact HK.out _ W hG (fun _ _ _ _ _ h => h) rfl
        · intro vs W bb hb1 hb2 hG hr K' hK
          have HK := Lib.hid hK
          clear hK
          go_simp
          exact HK.out _ W hG (fun _ _ _ _ _ h => h) rfl
        · intro vs W bb hb1 hb2 hG hr K' hK
          have r6 : vs 6 = .pointer (some ⟨ga, 2, none⟩) := hr 6 rfl (.inl trivial)
          have z0 : W.cell? ⟨ga, 2, none⟩ = some (.slice (some ⟨q, 0, none⟩) c.parts.length pk) := BlockIs.of hG.2.1 2 _ rfl
          simp only [r6] at hK ⊢
          have HK := Lib.hid hK
          clear hK
          go_simp
          exact HK.out _ W hG (fun _ _ _ _ _ h => h) rfl
        · intro vs W bb hb1 hb2 hG hr K' hK
          have HK := Lib.hid hK
          clear hK
          go_simp
          exact HK.out _ W hG (fun _ _ _ _ _ h => h) rfl
        · intro vs W bb hb1 hb2 hG hr K' hK
          have r7 : vs 7 = .slice (some ⟨q, 0, none⟩) c.parts.length pk := hr 7 rfl (.inl trivial)
          have r8 : vs 8 = .int .i64 k := hr 8 rfl (.inl trivial)
          simp only [r7, r8] at hK ⊢
          have HK := Lib.hid hK
          clear hK
          go_simp
          exact HK.out _ W hG (fun _ _ _ _ _ h => h) rfl
        · intro vs W bb hb1 hb2 hG hr K' hK
          have r9 : vs 9 = .pointer (some ⟨q, k * 3, none⟩) := hr 9 rfl (.inl trivial)
          simp only [r9] at hK ⊢
          have HK := Lib.hid hK
          clear hK
          go_simp
          exact HK.out _ W hG (fun _ _ _ _ _ h => h) rfl
        · intro vs W bb hb1 hb2 hG hr K' hK
          have r10 : vs 10 = .pointer (some ⟨q, k * 3 + 1, none⟩) := hr 10 rfl (.inl trivial)
          have hbb : bb = true := hb2 _ rfl rfl
          have z0 : W.cell? ⟨q, k * 3 + 1, none⟩ = some (.slice ta c.parts[k].tasks.length tk) := by obtain ⟨-, -, -, tv, hm, e1, -⟩ := hG; rw [← e1 hbb]; exact (hm.cells hlt).1
          simp only [r10] at hK ⊢
          have HK := Lib.hid hK
          clear hK
          go_simp
          exact HK.out _ W hG (fun _ _ _ _ _ h => h) rfl
        · intro vs W bb hb1 hb2 hG hr K' hK
          have r11 : vs 11 = .slice ta c.parts[k].tasks.length tk := hr 11 rfl (.inl trivial)
          simp only [r11] at hK ⊢
          have HK := Lib.hid hK
          have HG := Lib.hid hG
          clear hK hG hr
          go_simp
          go_at_call 47
          refine (cloneTask_any _ c.parts[k].tasks W (HPI.out.tasks.ext (Ext.below HG.out.1))).mono ?_
          rintro e w' ⟨v', rfl, hown, hb⟩
          obtain ⟨g1, g2', g3, tv, hm, e1, e2⟩ := HG.out
          exact HK.out v' w' ⟨bthen g1 hb, keep_at g2' hb, keep_at g3 hb, tv, hm.below hb, e1, fun h => Below.kept (e2 h) hb⟩ (fun j u _ _ _ h => cpV_below hb j u h) (own_lower hown g1.size)
        · intro vs W bb hb1 hb2 hG hr K' hK
          have HK := Lib.hid hK
          clear hK
          go_simp
          exact HK.out _ W hG (fun _ _ _ _ _ h => h) rfl
        · intro vs W bb hb1 hb2 hG hr K' hK
          have r13 : vs 13 = .pointer (some ⟨ga, 2, none⟩) := hr 13 rfl (.inl trivial)
          have z0 : W.cell? ⟨ga, 2, none⟩ = some (.slice (some ⟨q, 0, none⟩) c.parts.length pk) := BlockIs.of hG.2.1 2 _ rfl
          simp only [r13] at hK ⊢
          have HK := Lib.hid hK
          clear hK
          go_simp
          exact HK.out _ W hG (fun _ _ _ _ _ h => h) rfl
        · intro vs W bb hb1 hb2 hG hr K' hK
          have HK := Lib.hid hK
          clear hK
          go_simp
          exact HK.out _ W hG (fun _ _ _ _ _ h => h) rfl
        · intro vs W bb hb1 hb2 hG hr K' hK
          have r14 : vs 14 = .slice (some ⟨q, 0, none⟩) c.parts.length pk := hr 14 rfl (.inl trivial)
          have r15 : vs 15 = .int .i64 k := hr 15 rfl (.inl trivial)
          simp only [r14, r15] at hK ⊢
          have HK := Lib.hid hK
          clear hK
          go_simp
          exact HK.out _ W hG (fun _ _ _ _ _ h => h) rfl
        · intro vs W bb hb1 hb2 hG hr K' hK
          have r16 : vs 16 = .pointer (some ⟨q, k * 3, none⟩) := hr 16 rfl (.inl trivial)
          simp only [r16] at hK ⊢
          have HK := Lib.hid hK
          clear hK
          go_simp
          exact HK.out _ W hG (fun _ _ _ _ _ h => h) rfl
        · intro vs W bb hb1 hb2 hG hr K' hK
          have r17 : vs 17 = .pointer (some ⟨q, k * 3 + 2, none⟩) := hr 17 rfl (.inl trivial)
          have z0 : W.cell? ⟨q, k * 3 + 2, none⟩ = some (.slice ca c.parts[k].code.length ck) := by obtain ⟨-, -, -, tv, hm, -⟩ := hG; exact (hm.cells hlt).2.1
          simp only [r17] at hK ⊢
          have HK := Lib.hid hK
          clear hK
          go_simp
          exact HK.out _ W hG (fun _ _ _ _ _ h => h) rfl
        · intro vs W bb hb1 hb2 hG hr K' hK
          have r18 : vs 18 = .slice ca c.parts[k].code.length ck := hr 18 rfl (.inl trivial)
          simp only [r18] at hK ⊢
          have HK := Lib.hid hK
          have HG := Lib.hid hG
          clear hK hG hr
          go_simp
          go_at_call 48
          refine (cloneInstr_any _ c.parts[k].code W (HPI.out.code.ext (Ext.below HG.out.1))).mono ?_
          rintro e w' ⟨v', rfl, hown, hb⟩
          obtain ⟨g1, g2', g3, tv, hm, e1, e2⟩ := HG.out
          exact HK.out v' w' ⟨bthen g1 hb, keep_at g2' hb, keep_at g3 hb, tv, hm.below hb, e1, fun h => Below.kept (e2 h) hb⟩ (fun j u _ _ _ h => cpV_below hb j u h) (own_lower hown g1.size)
        · intro vs W bb hb1 hb2 hG hr K' hK
          have r1 : vs 1 = .slice (some ⟨q, 0, none⟩) c.parts.length pk := hr 1 rfl (.inl trivial)
          have r2 : vs 2 = .int .i64 k := hr 2 rfl (.inl trivial)
          simp only [r1, r2] at hK ⊢
          have HK := Lib.hid hK
          clear hK
          go_simp
          exact HK.out _ W hG (fun _ _ _ _ _ h => h) rfl
        · intro vs W bb hb1 hb2 hG hr K' hK
          have r20 : vs 20 = .pointer (some ⟨q, k * 3, none⟩) := hr 20 rfl (.inl trivial)
          simp only [r20] at hK ⊢
          have HK := Lib.hid hK
          clear hK
          go_simp
          exact HK.out _ W hG (fun _ _ _ _ _ h => h) rfl
        · intro vs W bb hb1 hb2 hG hr K' hK
          have r21 : vs 21 = .pointer (some ⟨q, k * 3 + 1, none⟩) := hr 21 rfl (.inl trivial)
          have r12 : W.ownsRow w.heap.size 48 6 (vs 12) c.parts[k].tasks.length (c.parts[k].tasks.flatMap taskCells) := hr 12 rfl (.inl trivial)
          obtain ⟨ta', tk', h12⟩ := own_shape r12
          rw [h12] at r12
          obtain ⟨g1, g2', g3, tv, hm, e1, e2⟩ := hG
          obtain ⟨z1, -, z3, z4⟩ := hm.cells hlt
          have z3 := z3 (k * 3 + 1)
          have hty : ∀ g, some q = some g → Typed W g 52 := fun g hg => by injection hg with hg; rw [← hg]; exact z4
          have hgr := set_grown W q (k * 3 + 1) (.slice ta' c.parts[k].tasks.length tk')
          simp only [r21, h12] at hK ⊢
          have HK := Lib.hid hK
          have HX := Lib.hid (And.intro g1 (And.intro g2' (And.intro g3 (And.intro hm (And.intro r12 (And.intro hty hgr))))))
          clear hK hr g1 g2' g3 hm e1 e2 r12 hty hgr z4
          go_simp
          obtain ⟨g1, g2', g3, hm, r12, hty, hgr⟩ := HX.out
          exact HK.out undef _ ⟨bput g1 hgr HQ0.out (Nat.le_refl _), typed_apart g2' hgr hty (by decide), typed_apart g3 hgr hty (by decide), _, hm.setT hlt, fun h => by simp at h, fun _ => own_apart r12 hgr hty (by decide)⟩ (fun j u _ _ _ h => cpV_part hgr hty j u h) trivial
        · intro vs W bb hb1 hb2 hG hr K' hK
          have r4 : vs 4 = .slice (some ⟨q, 0, none⟩) c.parts.length pk := hr 4 rfl (.inl trivial)
          have r5 : vs 5 = .int .i64 k := hr 5 rfl (.inl trivial)
          simp only [r4, r5] at hK ⊢
          have HK := Lib.hid hK
          clear hK
          go_simp
          exact HK.out _ W hG (fun _ _ _ _ _ h => h) rfl
        · intro vs W bb hb1 hb2 hG hr K' hK
          have r23 : vs 23 = .pointer (some ⟨q, k * 3, none⟩) := hr 23 rfl (.inl trivial)
          simp only [r23] at hK ⊢
          have HK := Lib.hid hK
          clear hK
          go_simp
          exact HK.out _ W hG (fun _ _ _ _ _ h => h) rfl
      · intro vs W hG hV
        simp only [List.getLast, List.dropLast, List.map, putAll, Act.put, List.setIfInBounds_toArray, List.set_cons_succ, List.set_cons_zero, Nat.reduceAdd]
        have r24 : vs 24 = .pointer (some ⟨q, k * 3 + 2, none⟩) := hV 24 (by simp only [List.dropLast, List.length_cons, List.length_nil]; omega) rfl
        have r19 : W.ownsRow w.heap.size 54 2 (vs 19) c.parts[k].code.length (c.parts[k].code.flatMap instrCells) := hV 19 (by simp only [List.dropLast, List.length_cons, List.length_nil]; omega) rfl
        obtain ⟨ca', ck', h19⟩ := own_shape r19
        rw [h19] at r19
        obtain ⟨g1, g2', g3, tv, hm, -, e2⟩ := hG
        obtain ⟨-, z2, z3, z4⟩ := hm.cells hlt
        have z3 := z3 (k * 3 + 2)
        have hty : ∀ g, some q = some g → Typed W g 52 := fun g hg => by injection hg with hg; rw [← hg]; exact z4
        have hgr := set_grown W q (k * 3 + 2) (.slice ca' c.parts[k].code.length ck')
        simp only [r24, h19]
        have HX : Hid (Below w.heap.size w (W.setCell ⟨q, k * 3 + 2, none⟩ (.slice ca' c.parts[k].code.length ck')) ∧ _ ∧ _ ∧ CopyRow w (W.setCell ⟨q, k * 3 + 2, none⟩ (.slice ca' c.parts[k].code.length ck')) w.heap.size _ (k + 1) c.parts) := Lib.hid ⟨bput g1 hgr HQ0.out (Nat.le_refl _), typed_apart g2' hgr hty (by decide), typed_apart g3 hgr hty (by decide), hm.setC hlt ⟨e2 rfl, r19⟩⟩
        clear hV g1 g2' g3 hm e2 r19 hty hgr z4 r24 h19
        go_simp
        obtain ⟨wd, hwd⟩ : ∃ wd, wd = W.setCell ⟨q, k * 3 + 2, none⟩ (.slice ca' c.parts[k].code.length ck') := ⟨_, rfl⟩
        rw [← hwd] at HX ⊢
        clear hwd z2 z3
        go_wp2_with fail
        go_roundw
        case rel => exact ⟨k + 1, by omega, by go_num, Lib.hid HX.out.2.1, Lib.hid HX.out.2.2.1, Lib.hid HX.out.2.2.2, HX.out.1⟩
        case measure => simp [intOf]; omega
    · obtain rfl : k = c.parts.length := by omega
      go_wp2_with fail
      refine region_each_lit rfl (by simp) (by kernel_rfl) (fun _ => none) (CqV w.heap.size ga (.slice ra c.windows.length rk) (.slice sa c.ports.length sk) c) 7 (fun bb W => Below w.heap.size w W ∧ W.heap[gb]? = some (.cells #[.int .i64 0, .int .i64 0, .slice none 0 0, .slice none 0 0, .slice none 0 0] 26 (0, 0)) ∧ CopyRow w W w.heap.size (.slice pa c.parts.length pk) c.parts.length c.parts ∧ ∃ wv, W.heap[ga]? = some (.cells #[.int .i64 c.frame, .int .i64 c.quiet, .slice pa c.parts.length pk, wv, .slice sa c.ports.length sk] 26 (0, 0)) ∧ (bb = true → wv = .slice ra c.windows.length rk) ∧ (bb = false → W.ownsRow w.heap.size 44 3 wv c.windows.length (c.windows.flatMap windowCells))) ⟨below_drew HBr.out, HZr.out, HRr.out, _, HKr.out, fun _ => rfl, fun h => by simp at h⟩ ?_ ?_
      · simp only [List.dropLast, List.map, putAll, Act.put, Each, List.setIfInBounds_toArray, List.set_cons_succ, List.set_cons_zero, Nat.reduceAdd, Nat.reduceEqDiff, reduceIte]
        refine ⟨?_, ?_, ?_, ?_, ?_, ?_, ?_, ?_, ?_, trivial⟩
        · intro vs W bb hb1 hb2 hG hr K' hK
          have HK := Lib.hid hK
          clear hK
          go_simp
          exact HK.out _ W hG (fun _ _ _ _ _ h => h) rfl
        · intro vs W bb hb1 hb2 hG hr K' hK
          have r0 : vs 0 = .pointer (some ⟨ga, 3, none⟩) := hr 0 rfl (.inl trivial)
          have hbb : bb = true := hb2 _ rfl rfl
          have z0 : W.cell? ⟨ga, 3, none⟩ = some (.slice ra c.windows.length rk) := by obtain ⟨-, -, -, wv, hm, e1, -⟩ := hG; rw [← e1 hbb]; exact BlockIs.of hm 3 _ rfl
          simp only [r0] at hK ⊢
          have HK := Lib.hid hK
          clear hK
          go_simp
          exact HK.out _ W hG (fun _ _ _ _ _ h => h) rfl
        · intro vs W bb hb1 hb2 hG hr K' hK
          have r1 : vs 1 = .slice ra c.windows.length rk := hr 1 rfl (.inl trivial)
          simp only [r1] at hK ⊢
          have HK := Lib.hid hK
          have HG' := Lib.hid hG
          clear hK hG hr
          go_simp
          go_at_call 49
          refine (cloneWindow_any _ c.windows W (HP.out.windows.ext (Ext.below HG'.out.1))).mono ?_
          rintro e w' ⟨v', rfl, hown, hb⟩
          obtain ⟨g1, g2', g3, wv, hm, e1, e2⟩ := HG'.out
          exact HK.out v' w' ⟨bthen g1 hb, keep_at g2' hb, g3.below hb, wv, keep_at hm hb, e1, fun h => Below.kept (e2 h) hb⟩ (fun j u _ _ _ h => cqV_below hb j u h) (own_lower hown g1.size)
        · intro vs W bb hb1 hb2 hG hr K' hK
          have HK := Lib.hid hK
          clear hK
          go_simp
          exact HK.out _ W hG (fun _ _ _ _ _ h => h) rfl
        · intro vs W bb hb1 hb2 hG hr K' hK
          have r3 : vs 3 = .pointer (some ⟨ga, 4, none⟩) := hr 3 rfl (.inl trivial)
          have z0 : W.cell? ⟨ga, 4, none⟩ = some (.slice sa c.ports.length sk) := by obtain ⟨-, -, -, wv, hm, -⟩ := hG; exact BlockIs.of hm 4 _ rfl
          simp only [r3] at hK ⊢
          have HK := Lib.hid hK
          clear hK
          go_simp
          exact HK.out _ W hG (fun _ _ _ _ _ h => h) rfl
        · intro vs W bb hb1 hb2 hG hr K' hK
          have r4 : vs 4 = .slice sa c.ports.length sk := hr 4 rfl (.inl trivial)
          simp only [r4] at hK ⊢
          have HK := Lib.hid hK
          have HG' := Lib.hid hG
          clear hK hG hr
          go_simp
          go_at_call 50
          refine (clonePort_any _ c.ports W (HP.out.ports.ext (Ext.below HG'.out.1))).mono ?_
          rintro e w' ⟨v', rfl, hown, hb⟩
          obtain ⟨g1, g2', g3, wv, hm, e1, e2⟩ := HG'.out
          exact HK.out v' w' ⟨bthen g1 hb, keep_at g2' hb, g3.below hb, wv, keep_at hm hb, e1, fun h => Below.kept (e2 h) hb⟩ (fun j u _ _ _ h => cqV_below hb j u h) (own_lower hown g1.size)
        · intro vs W bb hb1 hb2 hG hr K' hK
          have HK := Lib.hid hK
          clear hK
          go_simp
          exact HK.out _ W hG (fun _ _ _ _ _ h => h) rfl
        · intro vs W bb hb1 hb2 hG hr K' hK
          have r6 : vs 6 = .pointer (some ⟨ga, 3, none⟩) := hr 6 rfl (.inl trivial)
          have r2 : W.ownsRow w.heap.size 44 3 (vs 2) c.windows.length (c.windows.flatMap windowCells) := hr 2 rfl (.inl trivial)
          obtain ⟨wa', wk', h2⟩ := own_shape r2
          rw [h2] at r2
          obtain ⟨g1, g2', g3, wv, hm, e1, e2⟩ := hG
          obtain rfl := e1 (hb1 trivial)
          have z1 := BlockIs.of hm 3 _ rfl
          have z3 := thaw hm 3
          have hty : ∀ g, some ga = some g → Typed W g 26 := fun g hg => by injection hg with hg; rw [← hg]; exact ⟨_, hm⟩
          have hgr := set_grown W ga 3 (.slice wa' c.windows.length wk')
          simp only [r6, h2] at hK ⊢
          have HK := Lib.hid hK
          have HX := Lib.hid (And.intro g1 (And.intro g2' (And.intro g3 (And.intro hm (And.intro r2 (And.intro hty hgr))))))
          clear hK hr g1 g2' g3 hm e1 e2 r2 hty hgr
          go_simp
          obtain ⟨g1, g2', g3, hm, r2, hty, hgr⟩ := HX.out
          exact HK.out undef _ ⟨bput g1 hgr HG.out.1 (Nat.le_refl _), set_at _ g2' (by have := HG.out; omega), g3.apart hgr hty (by decide) (by decide) (by decide), _, blk_set hm 3 _, fun h => by simp at h, fun _ => own_apart r2 hgr hty (by decide)⟩ (fun j u _ _ _ h => cqV_cfg hgr hty j u h) trivial
        · intro vs W bb hb1 hb2 hG hr K' hK
          have HK := Lib.hid hK
          clear hK
          go_simp
          exact HK.out _ W hG (fun _ _ _ _ _ h => h) rfl
      · intro vs W hG hV
        simp only [List.getLast, List.dropLast, List.map, putAll, Act.put, List.setIfInBounds_toArray, List.set_cons_succ, List.set_cons_zero, Nat.reduceAdd]
        have r8 : vs 8 = .pointer (some ⟨ga, 4, none⟩) := hV 8 (by simp only [List.dropLast, List.length_cons, List.length_nil]; omega) rfl
        have r5 : W.ownsRow w.heap.size 46 4 (vs 5) c.ports.length (c.ports.flatMap portCells) := hV 5 (by simp only [List.dropLast, List.length_cons, List.length_nil]; omega) rfl
        obtain ⟨oa', ok', h5⟩ := own_shape r5
        rw [h5] at r5
        obtain ⟨g1, g2', g3, wv, hm, -, e2⟩ := hG
        have e2 := e2 rfl
        obtain ⟨wa', wk', rfl⟩ := own_shape e2
        have z2 := BlockIs.of hm 4 _ rfl
        have z3 := thaw hm 4
        have hty : ∀ g, some ga = some g → Typed W g 26 := fun g hg => by injection hg with hg; rw [← hg]; exact ⟨_, hm⟩
        have hgr := set_grown W ga 4 (.slice oa' c.ports.length ok')
        simp only [r8, h5]
        obtain ⟨wd, hwd⟩ : ∃ wd, wd = W.setCell ⟨ga, 4, none⟩ (.slice oa' c.ports.length ok') := ⟨_, rfl⟩
        have d1 := bput g1 hgr HG.out.1 (Nat.le_refl _)
        have d2 := set_at (q := ga) (j := 4) (.slice oa' c.ports.length ok') g2' (by have := HG.out; omega)
        have d3 := g3.apart hgr hty (by decide) (by decide) (by decide)
        have d4 := blk_set hm 4 (.slice oa' c.ports.length ok')
        have d5 := own_apart e2 hgr hty (by decide)
        have d6 := own_apart r5 hgr hty (by decide)
        rw [← hwd] at d1 d2 d3 d4 d5 d6
        have d4 : wd.heap[ga]? = some (.cells #[.int .i64 c.frame, .int .i64 c.quiet, .slice pa c.parts.length pk, .slice wa' c.windows.length wk', .slice oa' c.ports.length ok'] 26 (0, 0)) := d4
        have HX := Lib.hid (And.intro d1 (And.intro d3 (And.intro d5 d6)))
        have HK5 := Lib.hid (And.intro d2 d4)
        clear hV g1 g2' g3 hm e2 r5 hty hgr r8 h5 d1 d2 d3 d4 d5 d6
        go_simp
        rw [← hwd]
        clear hwd z2 z3
        have c0 := BlockIs.of HK5.out.2 0 _ rfl
        have c1 := BlockIs.of HK5.out.2 1 _ rfl
        have c2 := BlockIs.of HK5.out.2 2 _ rfl
        have c3 := BlockIs.of HK5.out.2 3 _ rfl
        have c4 := BlockIs.of HK5.out.2 4 _ rfl
        have hkz := HK5.out.1
        obtain ⟨we, hw_we⟩ : ∃ we, we = put5 wd gb (.int .i64 c.frame) (.int .i64 c.quiet) (.slice pa c.parts.length pk) (.slice wa' c.windows.length wk') (.slice oa' c.ports.length ok') := ⟨_, rfl⟩
        have hk_we := put5_at hkz (.int .i64 c.frame) (.int .i64 c.quiet) (.slice pa c.parts.length pk) (.slice wa' c.windows.length wk') (.slice oa' c.ports.length ok')
        have hg_we := put5_grown wd gb (.int .i64 c.frame) (.int .i64 c.quiet) (.slice pa c.parts.length pk) (.slice wa' c.windows.length wk') (.slice oa' c.ports.length ok')
        rw [← hw_we] at hk_we hg_we
        unfold put5 at hw_we
        have o_we_0 := BlockIs.of hkz 0 _ rfl
        have o_we_1 := BlockIs.of hkz 1 _ rfl
        have o_we_2 := BlockIs.of hkz 2 _ rfl
        have o_we_3 := BlockIs.of hkz 3 _ rfl
        have o_we_4 := BlockIs.of hkz 4 _ rfl
        have f_we := thaw hkz
        have e_we_0 := BlockIs.of hk_we 0 _ rfl
        have e_we_1 := BlockIs.of hk_we 1 _ rfl
        have e_we_2 := BlockIs.of hk_we 2 _ rfl
        have e_we_3 := BlockIs.of hk_we 3 _ rfl
        have e_we_4 := BlockIs.of hk_we 4 _ rfl
        have HTY : Hid (∀ g, some gb = some g → Typed wd g 26) := Lib.hid (fun g hg => by injection hg with hg; rw [← hg]; exact ⟨_, hkz⟩)
        have HGW := Lib.hid hg_we
        clear hk_we hg_we hkz
        go_wp2_with fail
        rw [← hw_we]
        clear hw_we o_we_0 o_we_1 o_we_2 o_we_3 o_we_4 f_we c0 c1 c2 c3 c4
        refine bodyPost_ret (v := .agg #[.int .i64 c.frame, .int .i64 c.quiet, .slice pa c.parts.length pk, .slice wa' c.windows.length wk', .slice oa' c.ports.length ok']) (by simp [results, Try.results36, go_sem, e_we_0, e_we_1, e_we_2, e_we_3, e_we_4]) rfl ⟨_, _, _, rfl, ?_, bput HX.out.1 HGW.out (by have := HG.out; omega) (Nat.le_refl _)⟩
        exact ⟨(HX.out.2.1.apart HGW.out HTY.out (by decide) (by decide) (by decide)).self, own_apart HX.out.2.2.1 HGW.out HTY.out (by decide), own_apart HX.out.2.2.2 HGW.out HTY.out (by decide), HSZ.out⟩
end Go.Proofs.Ytjhhncahlijohaa
