/- CopyConfig: a configuration's copy. -/
import Derived.Test.YthnecccakeminaaCopy2
import Derived.Test.YthnecccakeminaaEach
set_option linter.unusedVariables false
set_option linter.unusedSimpArgs false
namespace Go.Proofs.Ythnecccakeminaa
open Go.RowKit

theorem infoWindow : (Try.prog.info? 47).map (fun i => (i.zero, i.size, i.bytes)) = some (some (.agg #[.int .i64 0, .int .i64 0, .int .i64 0]), 3, 24) := by kernel_rfl
theorem infoPort : (Try.prog.info? 59).map (fun i => (i.zero, i.size, i.bytes)) = some (some (.agg #[.int .i64 0, .int .i64 0, .int .i64 0, .int .i64 0]), 4, 32) := by kernel_rfl
theorem infoPart : (Try.prog.info? 42).map (fun i => (i.zero, i.size, i.bytes)) = some (some (.agg #[.int .i64 0, .slice none 0 0, .slice none 0 0]), 3, 56) := by kernel_rfl
theorem Src.ext {w w' : World} (e : Ext w w') {x : Value} {m : Nat} {news : List Value} (h : Src w x m news) : Src w' x m news := by
  rcases h with h | ⟨ad, c, h1, hc⟩
  · exact .inl h
  · exact .inr ⟨ad, c, h1, fun j u hu => e _ _ (hc j u hu)⟩

def cellsAt (W : World) (B : Nat) (t : TypeId) (cs : Array Value) (v : Value) : Prop := ∃ g, v = .pointer (some ⟨g, 0, none⟩) ∧ B ≤ g ∧ W.heap[g]? = some (.cells cs t (0, 0))
/-- What each operation of CopyConfig's first region yields. -/
def CopyV (B g : Nat) (fr qu : Int) (wv ov : Value) (nw no : List Value) (lw lo : Nat) (i : Nat) (v : Value) (W : World) : Prop :=
  match i with
  | 0 => v = .pointer (some ⟨g, 0, none⟩)
  | 1 => v = .int .i64 fr
  | 2 => v = .pointer (some ⟨g, 1, none⟩)
  | 3 => v = .int .i64 qu
  | 4 => W.ownsRow B 47 3 v 0 []
  | 5 => v = .pointer (some ⟨g, 3, none⟩)
  | 6 => v = wv
  | 7 => W.ownsRow B 47 3 v lw nw
  | 8 => W.ownsRow B 59 4 v 0 []
  | 9 => v = .pointer (some ⟨g, 4, none⟩)
  | 10 => v = ov
  | 11 => W.ownsRow B 59 4 v lo no
  | 12 => ∃ v1 v2, v = .agg #[.int .i64 fr, .int .i64 qu, .slice none 0 0, v1, v2] ∧ W.ownsRow B 47 3 v1 lw nw ∧ W.ownsRow B 59 4 v2 lo no
  | 13 => cellsAt W B 26 #[.int .i64 0, .int .i64 0, .slice none 0 0, .slice none 0 0, .slice none 0 0] v
  | _ + 14 => True
theorem copyV_below {B g : Nat} {fr qu : Int} {wv ov : Value} {nw no : List Value} {lw lo : Nat} {W W' : World} (hb : Below W.heap.size W W') : ∀ j u, CopyV B g fr qu wv ov nw no lw lo j u W → CopyV B g fr qu wv ov nw no lw lo j u W'
  | 0, _, h | 1, _, h | 2, _, h | 3, _, h | 5, _, h | 6, _, h | 9, _, h | 10, _, h => h
  | 4, _, h | 7, _, h | 8, _, h | 11, _, h => Below.kept h hb
  | 12, _, ⟨v1, v2, e, h1, h2⟩ => ⟨v1, v2, e, Below.kept h1 hb, Below.kept h2 hb⟩
  | 13, _, ⟨g, e, h0, h1⟩ => ⟨g, e, h0, (hb.block g (lt_of_block h1)).trans h1⟩
  | _ + 14, _, _ => trivial
theorem copyV_window {B g : Nat} {fr qu : Int} {wv ov : Value} {nw no : List Value} {lw lo : Nat} {W W' : World} {r : Option Nat} (hg : W.grownBy W' r) (hr : ∀ g, r = some g → Typed W g 47) : ∀ j u, j ≠ 4 → j ≠ 7 → j ≠ 12 → CopyV B g fr qu wv ov nw no lw lo j u W → CopyV B g fr qu wv ov nw no lw lo j u W'
  | 0, _, _, _, _, h | 1, _, _, _, _, h | 2, _, _, _, _, h | 3, _, _, _, _, h | 5, _, _, _, _, h | 6, _, _, _, _, h | 9, _, _, _, _, h | 10, _, _, _, _, h => h
  | 4, _, h, _, _, _ | 7, _, _, h, _, _ | 12, _, _, _, h, _ => absurd rfl h
  | 8, _, _, _, _, h | 11, _, _, _, _, h => own_apart h hg hr (by decide)
  | 13, _, _, _, _, ⟨g, e, h0, h1⟩ => ⟨g, e, h0, typed_apart h1 hg hr (by decide)⟩
  | _ + 14, _, _, _, _, _ => trivial
theorem copyV_port {B g : Nat} {fr qu : Int} {wv ov : Value} {nw no : List Value} {lw lo : Nat} {W W' : World} {r : Option Nat} (hg : W.grownBy W' r) (hr : ∀ g, r = some g → Typed W g 59) : ∀ j u, j ≠ 8 → j ≠ 11 → j ≠ 12 → CopyV B g fr qu wv ov nw no lw lo j u W → CopyV B g fr qu wv ov nw no lw lo j u W'
  | 0, _, _, _, _, h | 1, _, _, _, _, h | 2, _, _, _, _, h | 3, _, _, _, _, h | 5, _, _, _, _, h | 6, _, _, _, _, h | 9, _, _, _, _, h | 10, _, _, _, _, h => h
  | 8, _, h, _, _, _ | 11, _, _, h, _, _ | 12, _, _, _, h, _ => absurd rfl h
  | 4, _, _, _, _, h | 7, _, _, _, _, h => own_apart h hg hr (by decide)
  | 13, _, _, _, _, ⟨g, e, h0, h1⟩ => ⟨g, e, h0, typed_apart h1 hg hr (by decide)⟩
  | _ + 14, _, _, _, _, _ => trivial
/-- A part's copy: its two rows. -/
def PartOwn (w W : World) (B : Nat) (tv cv : Value) (x : Part) : Prop :=
  ∃ nt nc, W.ownsRow B 44 6 tv x.tasks.length nt ∧ W.ownsRow B 64 2 cv x.code.length nc ∧
    (∀ W' b u, Ext w W' → W'.ownsRow b 44 6 u x.tasks.length nt → TasksV W' u x.tasks) ∧ (∀ W' b u, Ext w W' → W'.ownsRow b 64 2 u x.code.length nc → CodeV W' u x.code)
theorem PartOwn.below {w W W' : World} {B : Nat} {tv cv : Value} {x : Part} (h : PartOwn w W B tv cv x) (hb : Below W.heap.size W W') : PartOwn w W' B tv cv x := by
  obtain ⟨nt, nc, h1, h2, h3⟩ := h
  exact ⟨nt, nc, Below.kept h1 hb, Below.kept h2 hb, h3⟩
theorem PartOwn.apart {w W W' : World} {B : Nat} {tv cv : Value} {x : Part} (h : PartOwn w W B tv cv x) {r : Option Nat} {t : TypeId} (hg : W.grownBy W' r) (hr : ∀ g, r = some g → Typed W g t) (h1 : 44 ≠ t) (h2 : 64 ≠ t) : PartOwn w W' B tv cv x := by
  obtain ⟨nt, nc, g1, g2, g3⟩ := h
  exact ⟨nt, nc, own_apart g1 hg hr h1, own_apart g2 hg hr h2, g3⟩
/-- The parts copied as yet. -/
def PartsRow (w W : World) (B : Nat) (k : Nat) (ps : List Part) (L : List Value) : Prop :=
  (∀ i (h : i < ps.length), i < k → ∃ tv cv, L[i * 3]? = some (.int .i64 ps[i].level) ∧ L[i * 3 + 1]? = some tv ∧ L[i * 3 + 2]? = some cv ∧ PartOwn w W B tv cv ps[i]) ∧
  ∀ i j, i < j → j < k → ∀ tv tv' : Value, L[i * 3 + 1]? = some tv → L[j * 3 + 1]? = some tv' → ∀ g, tv.ownBlock = some g → tv'.ownBlock ≠ some g
def PartsOwn (w W : World) (B : Nat) (v : Value) (k : Nat) (ps : List Part) : Prop :=
  ∃ L, W.ownsRow B 42 3 v k L ∧ PartsRow w W B k ps L
/-- .. all their tasks below a block's number. -/
def PartsLow (w W : World) (B N : Nat) (v : Value) (k : Nat) (ps : List Part) : Prop :=
  ∃ L, W.ownsRow B 42 3 v k L ∧ PartsRow w W B k ps L ∧ ∀ i, i < k → ∀ tv : Value, L[i * 3 + 1]? = some tv → ∀ g, tv.ownBlock = some g → g < N
theorem PartsOwn.lower {w W : World} {B B' k : Nat} {v : Value} {ps : List Part} (h : PartsOwn w W B v k ps) (hb : B' ≤ B) : PartsOwn w W B' v k ps := by
  obtain ⟨L, h1, h2, h3⟩ := h
  refine ⟨L, own_lower h1 hb, fun i hi hk => ?_, h3⟩
  obtain ⟨tv, cv, a1, a2, a3, nt, nc, b1, b2, b3⟩ := h2 i hi hk
  exact ⟨tv, cv, a1, a2, a3, nt, nc, own_lower b1 hb, own_lower b2 hb, b3⟩
theorem PartsOwn.below {w W W' : World} {B k : Nat} {v : Value} {ps : List Part} (h : PartsOwn w W B v k ps) (hb : Below W.heap.size W W') : PartsOwn w W' B v k ps := by
  obtain ⟨L, h1, h2, h3⟩ := h
  refine ⟨L, Below.kept h1 hb, fun i hi hk => ?_, h3⟩
  obtain ⟨tv, cv, a1, a2, a3, a4⟩ := h2 i hi hk
  exact ⟨tv, cv, a1, a2, a3, a4.below hb⟩
theorem PartsOwn.apart {w W W' : World} {B k : Nat} {v : Value} {ps : List Part} (h : PartsOwn w W B v k ps) {r : Option Nat} {t : TypeId} (hg : W.grownBy W' r) (hr : ∀ g, r = some g → Typed W g t) (h0 : 42 ≠ t) (h1 : 44 ≠ t) (h2 : 64 ≠ t) : PartsOwn w W' B v k ps := by
  obtain ⟨L, g1, g2, g3⟩ := h
  refine ⟨L, own_apart g1 hg hr h0, fun i hi hk => ?_, g3⟩
  obtain ⟨tv, cv, a1, a2, a3, a4⟩ := g2 i hi hk
  exact ⟨tv, cv, a1, a2, a3, a4.apart hg hr h1 h2⟩
/-- Another part. -/
theorem PartsLow.below {w W W' : World} {B N k : Nat} {v : Value} {ps : List Part} (h : PartsLow w W B N v k ps) (hb : Below W.heap.size W W') : PartsLow w W' B N v k ps := by
  obtain ⟨L, h1, ⟨h2, h3⟩, h4⟩ := h
  refine ⟨L, Below.kept h1 hb, ⟨fun i hi hk => ?_, h3⟩, h4⟩
  obtain ⟨tv, cv, a1, a2, a3, a4⟩ := h2 i hi hk
  exact ⟨tv, cv, a1, a2, a3, a4.below hb⟩
theorem PartsOwn.low {w W : World} {B k : Nat} {v : Value} {ps : List Part} (h : PartsOwn w W B v k ps) (hk : k ≤ ps.length) : PartsLow w W B W.heap.size v k ps := by
  obtain ⟨L, h1, h2, h3⟩ := h
  refine ⟨L, h1, ⟨h2, h3⟩, fun i hi tv ht g hg => ?_⟩
  obtain ⟨tv', cv, a1, a2, a3, nt, nc, b1, -⟩ := h2 i (by omega) hi
  rw [ht] at a2
  injection a2 with a2
  subst a2
  obtain ⟨cur, hcur⟩ := own_typed b1 hg
  exact lt_of_block hcur
theorem PartOwn.lower {w W : World} {B B' : Nat} {tv cv : Value} {x : Part} (h : PartOwn w W B tv cv x) (hb : B' ≤ B) : PartOwn w W B' tv cv x := by
  obtain ⟨nt, nc, b1, b2, b3⟩ := h
  exact ⟨nt, nc, own_lower b1 hb, own_lower b2 hb, b3⟩
theorem own_above {w : World} {b : Nat} {e : TypeId} {size n : Nat} {v : Value} {xs : List Value} (h : w.ownsRow b e size v n xs) {g : Nat} (hg : v.ownBlock = some g) : b ≤ g := (h.lt g hg).1
theorem PartsOwn.snoc {w W W' : World} {B k : Nat} {v v' tv cv : Value} {ps : List Part} {L : List Value} (hL : W.ownsRow B 42 3 v k L) (h2 : PartsRow w W B k ps L)
    (hk : k < ps.length) (hp : PartOwn w W B tv cv ps[k]) (hn : W'.ownsRow B 42 3 v' (k + 1) (L ++ [.int .i64 ps[k].level, tv, cv])) (hg : W.grownBy W' v.ownBlock) (hf : ∀ i, i < k → ∀ tv' : Value, L[i * 3 + 1]? = some tv' → ∀ g, tv'.ownBlock = some g → tv.ownBlock ≠ some g) : PartsOwn w W' B v' (k + 1) ps := by
  have hr : ∀ g, v.ownBlock = some g → Typed W g 42 := fun g hg => own_typed hL hg
  obtain ⟨h2, h3⟩ := h2
  refine ⟨_, hn, fun i hi hik => ?_, ?_⟩
  rotate_left
  · have hl : L.length = k * 3 := hL.1
    intro i j hij hjk t t' ht ht' g hg'
    rw [List.getElem?_append_left (by omega)] at ht
    by_cases e : j = k
    · subst e
      rw [List.getElem?_append_right (by omega), show j * 3 + 1 - L.length = 1 by omega] at ht'
      injection ht' with ht'
      rw [← ht']
      exact hf i hij t ht g hg'
    · rw [List.getElem?_append_left (by omega)] at ht'
      exact h3 i j hij (by omega) t t' ht ht' g hg'
  have hl : L.length = k * 3 := hL.1
  by_cases e : i = k
  · subst e
    refine ⟨tv, cv, ?_, ?_, ?_, hp.apart hg hr (by decide) (by decide)⟩
    · rw [List.getElem?_append_right (by omega), show i * 3 - L.length = 0 by omega]; rfl
    · rw [List.getElem?_append_right (by omega), show i * 3 + 1 - L.length = 1 by omega]; rfl
    · rw [List.getElem?_append_right (by omega), show i * 3 + 2 - L.length = 2 by omega]; rfl
  · obtain ⟨tv', cv', a1, a2, a3, a4⟩ := h2 i hi (by omega)
    refine ⟨tv', cv', ?_, ?_, ?_, a4.apart hg hr (by decide) (by decide)⟩
    · rw [List.getElem?_append_left (by omega)]; exact a1
    · rw [List.getElem?_append_left (by omega)]; exact a2
    · rw [List.getElem?_append_left (by omega)]; exact a3
theorem PartsOwn.parts {w W : World} {B : Nat} {v : Value} {ps : List Part} (h : PartsOwn w W B v ps.length ps) (hw : Ext w W) (hB : ps.length * 56 ≤ 140737488351232) : PartsV W v ps := by
  obtain ⟨L, h1, h2, -⟩ := h
  by_cases hx : ps = []
  · subst hx
    rcases h1.2 with ⟨rfl, _⟩ | ⟨g, cap', cur, rfl, _, _, hn, hm, _⟩
    · exact slice0 _ _ _ _
    · exact ⟨_, cap', rfl, by simp, hn, hm, fun h => absurd rfl h⟩
  · have hpos : 0 < ps.length := List.length_pos_iff.2 hx
    obtain ⟨g, cap', rfl, hg, hn, hm⟩ := ownsRow_some h1 hpos
    refine ⟨_, cap', rfl, hB, hn, hm, fun _ => ⟨g, 0, rfl, fun i hi => ?_⟩⟩
    obtain ⟨tv, cv, a1, a2, a3, nt, nc, b1, b2, b3, b4⟩ := h2 i hi hi
    refine ⟨?_, tv, cv, ?_, ?_, ⟨b3 _ _ _ hw b1, b4 _ _ _ hw b2⟩⟩
    · unfold IntAt
      rw [Nat.zero_add, h1.cellAt _ (by omega)]; exact a1
    · rw [Nat.zero_add, h1.cellAt _ (by omega)]; exact a2
    · rw [Nat.zero_add, h1.cellAt _ (by omega)]; exact a3
/-- What each operation of the round's region yields. -/
def CopyW (w : World) (N B g gd : Nat) (pa : Value) (b o : Nat) (st sc pv : Value) (k : Nat) (x : Part) (ps : List Part) (i : Nat) (v : Value) (W : World) : Prop :=
  match i with
  | 0 | 25 => v = .pointer (some ⟨gd, 2, none⟩)
  | 1 => v = pv ∧ PartsLow w W B N pv k ps
  | 2 | 8 | 15 => v = .pointer (some ⟨g, 2, none⟩)
  | 3 | 9 | 16 => v = pa
  | 4 | 10 | 17 => v = .int .i64 k
  | 5 | 6 | 11 | 18 => v = .pointer (some ⟨b, o, none⟩)
  | 7 => v = .int .i64 x.level
  | 12 => v = .pointer (some ⟨b, o + 1, none⟩)
  | 13 => v = st
  | 14 => ∃ nt, W.ownsRow N 44 6 v x.tasks.length nt ∧ (∀ W' b u, Ext w W' → W'.ownsRow b 44 6 u x.tasks.length nt → TasksV W' u x.tasks)
  | 19 => v = .pointer (some ⟨b, o + 2, none⟩)
  | 20 => v = sc
  | 21 => ∃ nc, W.ownsRow N 64 2 v x.code.length nc ∧ (∀ W' b u, Ext w W' → W'.ownsRow b 64 2 u x.code.length nc → CodeV W' u x.code)
  | 22 => ∃ tv cv, v = .agg #[.int .i64 x.level, tv, cv] ∧ PartOwn w W N tv cv x
  | 23 => ∃ q tv cv, v = .slice (some ⟨q, 0, none⟩) 1 1 ∧ W.heap[q]? = some (.cells #[.int .i64 x.level, tv, cv] 42 (0, 0)) ∧ PartOwn w W N tv cv x
  | 24 => PartsOwn w W B v (k + 1) ps
  | _ + 26 => True
theorem copyW_below {w : World} {N B g gd : Nat} {pa : Value} {b o : Nat} {st sc pv : Value} {k : Nat} {x : Part} {ps : List Part} {W W' : World} (hb : Below W.heap.size W W') : ∀ j u, CopyW w N B g gd pa b o st sc pv k x ps j u W → CopyW w N B g gd pa b o st sc pv k x ps j u W'
  | 0, _, h | 25, _, h | 2, _, h | 8, _, h | 15, _, h | 3, _, h | 9, _, h | 16, _, h | 4, _, h | 10, _, h | 17, _, h | 5, _, h | 6, _, h | 11, _, h | 18, _, h | 7, _, h | 12, _, h | 13, _, h | 19, _, h | 20, _, h => h
  | 1, _, ⟨e, h⟩ => ⟨e, h.below hb⟩
  | 14, _, ⟨nt, h, h'⟩ => ⟨nt, Below.kept h hb, h'⟩
  | 21, _, ⟨nt, h, h'⟩ => ⟨nt, Below.kept h hb, h'⟩
  | 22, _, ⟨tv, cv, e, h⟩ => ⟨tv, cv, e, h.below hb⟩
  | 23, _, ⟨q, tv, cv, e, hq, h⟩ => ⟨q, tv, cv, e, (hb.block q (lt_of_block hq)).trans hq, h.below hb⟩
  | 24, _, h => PartsOwn.below h hb
  | _ + 26, _, _ => trivial
theorem copyW_part {w : World} {N B g gd : Nat} {pa : Value} {b o : Nat} {st sc pv : Value} {k : Nat} {x : Part} {ps : List Part} {W W' : World} {r : Option Nat} (hg : W.grownBy W' r) (hr : ∀ g, r = some g → Typed W g 42) : ∀ j u, j ≠ 1 → j ≠ 23 → j ≠ 24 → CopyW w N B g gd pa b o st sc pv k x ps j u W → CopyW w N B g gd pa b o st sc pv k x ps j u W'
  | 0, _, _, _, _, h | 25, _, _, _, _, h | 2, _, _, _, _, h | 8, _, _, _, _, h | 15, _, _, _, _, h | 3, _, _, _, _, h | 9, _, _, _, _, h | 16, _, _, _, _, h | 4, _, _, _, _, h | 10, _, _, _, _, h | 17, _, _, _, _, h | 5, _, _, _, _, h | 6, _, _, _, _, h | 11, _, _, _, _, h | 18, _, _, _, _, h | 7, _, _, _, _, h | 12, _, _, _, _, h | 13, _, _, _, _, h | 19, _, _, _, _, h | 20, _, _, _, _, h => h
  | 1, _, h, _, _, _ | 23, _, _, h, _, _ | 24, _, _, _, h, _ => absurd rfl h
  | 14, _, _, _, _, ⟨nt, h, h'⟩ => ⟨nt, own_apart h hg hr (by decide), h'⟩
  | 21, _, _, _, _, ⟨nt, h, h'⟩ => ⟨nt, own_apart h hg hr (by decide), h'⟩
  | 22, _, _, _, _, ⟨tv, cv, e, h⟩ => ⟨tv, cv, e, h.apart hg hr (by decide) (by decide)⟩
  | _ + 26, _, _, _, _, _ => trivial
/-- A configuration's copy: its rows. -/
structure CfgOwn (w W : World) (B : Nat) (pv wv ov : Value) (c : Config) : Prop where
  parts : PartsOwn w W B pv c.parts.length c.parts
  windows : ∃ nw, W.ownsRow B 47 3 wv c.windows.length nw ∧ ∀ W' b u, Ext w W' → W'.ownsRow b 47 3 u c.windows.length nw → WindowsV W' u c.windows
  ports : ∃ no, W.ownsRow B 59 4 ov c.ports.length no ∧ ∀ W' b u, Ext w W' → W'.ownsRow b 59 4 u c.ports.length no → PortsV W' u c.ports
  room : c.parts.length * 56 ≤ 140737488351232
theorem CfgOwn.is {w W : World} {B : Nat} {pv wv ov : Value} {c : Config} (h : CfgOwn w W B pv wv ov c) (hw : Ext w W) : CfgIs W pv wv ov c := by
  obtain ⟨nw, w1, w2⟩ := h.windows
  obtain ⟨no, o1, o2⟩ := h.ports
  exact ⟨h.parts.parts hw h.room, w2 _ _ _ hw w1, o2 _ _ _ hw o1⟩
theorem CfgOwn.below {w W W' : World} {B : Nat} {pv wv ov : Value} {c : Config} (h : CfgOwn w W B pv wv ov c) (hb : Below W.heap.size W W') : CfgOwn w W' B pv wv ov c := by
  obtain ⟨nw, w1, w2⟩ := h.windows
  obtain ⟨no, o1, o2⟩ := h.ports
  exact ⟨h.parts.below hb, ⟨nw, Below.kept w1 hb, w2⟩, ⟨no, Below.kept o1 hb, o2⟩, h.room⟩
def copyU2 (j : Nat) : Option Nat := if j = 1 then some 24 else if j = 23 then some 24 else none
def copyU (j : Nat) : Option Nat := if j = 4 then some 7 else if j = 8 then some 11 else none

set_option maxRecDepth 100000 in
set_option maxHeartbeats 400000 in
theorem copyCfg_own (c : Config) (v : Value) (w : World) (hc : CfgV w v c) :
    Calls Try.prog 9 #[v] w fun e w' => ∃ pv wv ov, e = .returned (.agg #[.int .i64 c.frame, .int .i64 c.quiet, pv, wv, ov]) ∧ CfgOwn w w' w.heap.size pv wv ov c ∧ Below w.heap.size w w' := by
  obtain ⟨pv, wv, ov, rfl, hcfg⟩ := hc
  obtain ⟨nw, wl, w1, ws, wback⟩ := SliceAt.cells told_window (by decide) hcfg.windows
  obtain ⟨no, ol, o1, os, oback⟩ := SliceAt.cells told_port (by decide) hcfg.ports
  have hwin := hcfg.windows
  have hpor := hcfg.ports
  obtain ⟨pa, pk, wa, wk, oa, ok, rfl, rfl, rfl⟩ := hcfg.shape
  obtain ⟨_, _, -, wn1, wn2, wn3, -⟩ := hwin
  obtain ⟨_, _, -, on1, on2, on3, -⟩ := hpor
  have wln : c.windows.length ≤ maxLen := Nat.le_trans wn2 wn3
  have oln : c.ports.length ≤ maxLen := Nat.le_trans on2 on3
  obtain ⟨wz, hwz⟩ : ∃ wz, wz = (w.alloc (.cells #[.int .i64 c.frame, .int .i64 c.quiet, .slice pa c.parts.length pk, .slice wa c.windows.length wk, .slice oa c.ports.length ok] 26)).alloc (.cells #[.int .i64 0, .int .i64 0, .slice none 0 0, .slice none 0 0, .slice none 0 0] 26) := ⟨_, rfl⟩
  have hcc := (cfg_box w c _ _ _ 26 hcfg).ext (Ext.alloc _ (.cells #[.int .i64 0, .int .i64 0, .slice none 0 0, .slice none 0 0, .slice none 0 0] 26))
  rw [← hwz] at hcc
  have hbz : Below w.heap.size w wz := by rw [hwz]; exact bthen (balloc _ _) (balloc _ _)
  have hz2 : w.heap.size + 2 = wz.heap.size := by rw [hwz]; simp
  have hres : wz.heap[w.heap.size + 1]? = some (.cells #[.int .i64 0, .int .i64 0, .slice none 0 0, .slice none 0 0, .slice none 0 0] 26 (0, 0)) := by rw [hwz, heap_push, heap_push]; simp only [Array.getElem?_push, Array.size_push, if_true]
  have HR := Lib.hid hres
  have HPB := Lib.hid hcfg.parts
  clear hres
  have HC := Lib.hid hcc
  have HBZ := Lib.hid hbz
  clear hcc hbz wn2 on2
  have HW := Lib.hid (And.intro wl (And.intro w1 (And.intro ws wback)))
  have HO := Lib.hid (And.intro ol (And.intro o1 (And.intro os oback)))
  clear wl w1 ws wback ol o1 os oback
  go_enter Try.func9, Try.ntmps9
  go_wp2_with fail
  rw [← hwz]
  clear hwz
  refine region_each_lit rfl (by simp) (by kernel_rfl) copyU (CopyV wz.heap.size w.heap.size c.frame c.quiet (.slice wa c.windows.length wk) (.slice oa c.ports.length ok) nw no c.windows.length c.ports.length) 100 (fun _ W => Below wz.heap.size wz W) (below_drew (Below.refl _ _)) ?_ ?_
  · simp only [List.dropLast, List.map, putAll, Act.put, Each, List.setIfInBounds_toArray, List.set_cons_succ, List.set_cons_zero, Nat.reduceAdd, Nat.reduceEqDiff, reduceIte]
    refine ⟨?_, ?_, ?_, ?_, ?_, ?_, ?_, ?_, ?_, ?_, ?_, ?_, ?_, ?_, trivial⟩
    · intro vs W bb hb1 hb2 hG hr K' hK
      have HK := Lib.hid hK
      clear hK
      go_simp
      exact HK.out _ W hG (fun _ _ _ _ _ h => h) rfl
    · intro vs W bb hb1 hb2 hG hr K' hK
      have r0 : vs 0 = .pointer (some ⟨w.heap.size, 0, none⟩) := hr 0 rfl (.inl rfl)
      have z0 : W.cell? ⟨w.heap.size, 0, none⟩ = some (.int .i64 c.frame) := Ext.below hG _ _ HC.out.c0
      simp only [r0] at hK ⊢
      have HK := Lib.hid hK
      clear hK
      go_simp
      exact HK.out _ W hG (fun _ _ _ _ _ h => h) rfl
    · intro vs W bb hb1 hb2 hG hr K' hK
      have HK := Lib.hid hK
      clear hK
      go_simp
      exact HK.out _ W hG (fun _ _ _ _ _ h => h) rfl
    · intro vs W bb hb1 hb2 hG hr K' hK
      have r0 : vs 2 = .pointer (some ⟨w.heap.size, 1, none⟩) := hr 2 rfl (.inl rfl)
      have z0 : W.cell? ⟨w.heap.size, 1, none⟩ = some (.int .i64 c.quiet) := Ext.below hG _ _ HC.out.c1
      simp only [r0] at hK ⊢
      have HK := Lib.hid hK
      clear hK
      go_simp
      exact HK.out _ W hG (fun _ _ _ _ _ h => h) rfl
    · intro vs W bb hb1 hb2 hG hr K' hK
      have HK := Lib.hid hK
      clear hK
      go_simp
      exact HK.out _ _ (bthen hG (balloc _ _)) (fun j u _ _ _ h => copyV_below (balloc _ _) j u h) (own_lower (own_lit W _ _) hG.size)
    · intro vs W bb hb1 hb2 hG hr K' hK
      have HK := Lib.hid hK
      clear hK
      go_simp
      exact HK.out _ W hG (fun _ _ _ _ _ h => h) rfl
    · intro vs W bb hb1 hb2 hG hr K' hK
      have r0 : vs 5 = .pointer (some ⟨w.heap.size, 3, none⟩) := hr 5 rfl (.inl rfl)
      have z0 : W.cell? ⟨w.heap.size, 3, none⟩ = some (.slice wa c.windows.length wk) := Ext.below hG _ _ HC.out.c3
      simp only [r0] at hK ⊢
      have HK := Lib.hid hK
      clear hK
      go_simp
      exact HK.out _ W hG (fun _ _ _ _ _ h => h) rfl
    · intro vs W bb hb1 hb2 hG hr K' hK
      have r0 : W.ownsRow wz.heap.size 47 3 (vs 4) 0 [] := hr 4 rfl (.inr rfl)
      have r1 : vs 6 = .slice wa c.windows.length wk := hr 6 rfl (.inl rfl)
      have hw : Ext w W := Ext.below (bthen HBZ.out hG)
      refine wp_onto W (.tmp 9) (.tmp 11) 23 rfl wz.heap.size 47 _ 3 24 Try.underlying23 infoWindow rfl (by decide) (vs 4) 0 [] rfl r0 c.windows.length nw ?_ HW.out.1 HW.out.2.1 (by omega) (by omega) hG.size ?_
      · show Src W (vs 6) _ _
        rw [r1]
        exact Src.ext hw HW.out.2.2.1
      · intro v' W' hown hg
        rw [Nat.zero_add, List.nil_append] at hown
        simp only [Act.put, List.setIfInBounds_toArray, List.set_cons_succ, List.set_cons_zero] 
        exact hK v' W' (hG.grown hg hG.size (fun k hk => (r0.lt k hk).1)) (fun j u h1 h2 h3 h => copyV_window hg (fun g hg => own_typed r0 hg) j u (fun e => h2 (by rw [e]; rfl)) h1 (fun e => by subst e; exact absurd (h3 _ rfl) (by decide)) h) hown
    · intro vs W bb hb1 hb2 hG hr K' hK
      have HK := Lib.hid hK
      clear hK
      go_simp
      exact HK.out _ _ (bthen hG (balloc _ _)) (fun j u _ _ _ h => copyV_below (balloc _ _) j u h) (own_lower (own_lit W _ _) hG.size)
    · intro vs W bb hb1 hb2 hG hr K' hK
      have HK := Lib.hid hK
      clear hK
      go_simp
      exact HK.out _ W hG (fun _ _ _ _ _ h => h) rfl
    · intro vs W bb hb1 hb2 hG hr K' hK
      have r0 : vs 9 = .pointer (some ⟨w.heap.size, 4, none⟩) := hr 9 rfl (.inl rfl)
      have z0 : W.cell? ⟨w.heap.size, 4, none⟩ = some (.slice oa c.ports.length ok) := Ext.below hG _ _ HC.out.c4
      simp only [r0] at hK ⊢
      have HK := Lib.hid hK
      clear hK
      go_simp
      exact HK.out _ W hG (fun _ _ _ _ _ h => h) rfl
    · intro vs W bb hb1 hb2 hG hr K' hK
      have r0 : W.ownsRow wz.heap.size 59 4 (vs 8) 0 [] := hr 8 rfl (.inr rfl)
      have r1 : vs 10 = .slice oa c.ports.length ok := hr 10 rfl (.inl rfl)
      have hw : Ext w W := Ext.below (bthen HBZ.out hG)
      refine wp_onto W (.tmp 13) (.tmp 15) 24 rfl wz.heap.size 59 _ 4 32 Try.underlying24 infoPort rfl (by decide) (vs 8) 0 [] rfl r0 c.ports.length no ?_ HO.out.1 HO.out.2.1 (by omega) (by omega) hG.size ?_
      · show Src W (vs 10) _ _
        rw [r1]
        exact Src.ext hw HO.out.2.2.1
      · intro v' W' hown hg
        rw [Nat.zero_add, List.nil_append] at hown
        simp only [Act.put, List.setIfInBounds_toArray, List.set_cons_succ, List.set_cons_zero] 
        exact hK v' W' (hG.grown hg hG.size (fun k hk => (r0.lt k hk).1)) (fun j u h1 h2 h3 h => copyV_port hg (fun g hg => own_typed r0 hg) j u (fun e => h2 (by rw [e]; rfl)) h1 (fun e => by subst e; exact absurd (h3 _ rfl) (by decide)) h) hown
    · intro vs W bb hb1 hb2 hG hr K' hK
      have r1 : vs 1 = .int .i64 c.frame := hr 1 rfl (.inl rfl)
      have r3 : vs 3 = .int .i64 c.quiet := hr 3 rfl (.inl rfl)
      have r7 : W.ownsRow wz.heap.size 47 3 (vs 7) c.windows.length nw := hr 7 rfl (.inl rfl)
      have r11 : W.ownsRow wz.heap.size 59 4 (vs 11) c.ports.length no := hr 11 rfl (.inl rfl)
      obtain ⟨a7, c7, h7⟩ := own_shape r7
      obtain ⟨a11, c11, h11⟩ := own_shape r11
      rw [h7] at r7
      rw [h11] at r11
      simp only [r1, r3, h7, h11] at hK ⊢
      have HK := Lib.hid hK
      have R7 := Lib.hid r7
      have R11 := Lib.hid r11
      clear hK r7 r11 r1 r3 h7 h11
      go_simp
      exact HK.out _ W hG (fun _ _ _ _ _ h => h) ⟨_, _, rfl, R7.out, R11.out⟩
    · intro vs W bb hb1 hb2 hG hr K' hK
      have HK := Lib.hid hK
      clear hK
      go_simp
      exact HK.out _ _ (bthen hG (balloc _ _)) (fun j u _ _ _ h => copyV_below (balloc _ _) j u h) ⟨W.heap.size, rfl, hG.size, blk_new _ _⟩
  · intro vs W hG hV
    simp only [List.getLast, List.dropLast, List.map, putAll, Act.put, List.setIfInBounds_toArray, List.set_cons_succ, List.set_cons_zero, Nat.reduceAdd]
    have r12 : ∃ v1 v2, vs 12 = .agg #[.int .i64 c.frame, .int .i64 c.quiet, .slice none 0 0, v1, v2] ∧ W.ownsRow wz.heap.size 47 3 v1 c.windows.length nw ∧ W.ownsRow wz.heap.size 59 4 v2 c.ports.length no := hV 12 (by simp only [List.dropLast, List.length_cons, List.length_nil]; omega) rfl
    have r13 : cellsAt W wz.heap.size 26 #[.int .i64 0, .int .i64 0, .slice none 0 0, .slice none 0 0, .slice none 0 0] (vs 13) := hV 13 (by simp only [List.dropLast, List.length_cons, List.length_nil]; omega) rfl
    obtain ⟨v1, v2, r12, hwin, hport⟩ := r12
    obtain ⟨gd, r13, hgd, hcur⟩ := r13
    obtain ⟨a1, c1, rfl⟩ := own_shape hwin
    obtain ⟨a2, c2, rfl⟩ := own_shape hport
    simp only [r12, r13]
    have y := BlockIs.of hcur
    have y0 := y 0 _ rfl
    have y1 := y 1 _ rfl
    have y2 := y 2 _ rfl
    have y3 := y 3 _ rfl
    have y4 := y 4 _ rfl
    have q : ∀ k, W.frozen? ⟨gd, k, none⟩ = false := fun k => by unfold World.frozen?; rw [hcur]; simp
    have HV := Lib.hid (And.intro hwin hport)
    have HD := Lib.hid hcur
    have HG := Lib.hid hG
    clear y hwin hport hcur hG hV r12 r13
    go_simp
    obtain ⟨wd, hwd⟩ : ∃ wd, wd = (((((W.setCell { block := gd, off := 0 } (Value.int IntKind.i64 c.frame)).setCell { block := gd, off := 1 } (Value.int IntKind.i64 c.quiet)).setCell { block := gd, off := 2 } (Value.slice none 0 0)).setCell { block := gd, off := 3 } (Value.slice a1 c.windows.length c1)).setCell { block := gd, off := 4 } (Value.slice a2 c.ports.length c2)) := ⟨_, rfl⟩
    rw [← hwd]
    have hgr : W.grownBy wd (some gd) := by
      rw [hwd]
      exact ((((set_grown _ _ _ _).trans (set_grown _ _ _ _)).trans (set_grown _ _ _ _)).trans (set_grown _ _ _ _)).trans (set_grown _ _ _ _)
    have hty : ∀ g, some gd = some g → Typed W g 26 := fun g hg => by injection hg with hg; subst hg; exact ⟨_, HD.out⟩
    have hdd : wd.heap[gd]? = some (.cells #[.int .i64 c.frame, .int .i64 c.quiet, .slice none 0 0, .slice a1 c.windows.length c1, .slice a2 c.ports.length c2] 26 (0, 0)) := by
      rw [hwd]
      exact blk_set (blk_set (blk_set (blk_set (blk_set HD.out 0 _) 1 _) 2 _) 3 _) 4 _
    have hBd : Below wz.heap.size wz wd := HG.out.grown hgr HG.out.size (fun k hk => by injection hk with hk; omega)
    have HD2 := Lib.hid hdd
    have HB2 := Lib.hid hBd
    have HV2 := Lib.hid (And.intro (own_apart HV.out.1 hgr hty (by decide)) (own_apart HV.out.2 hgr hty (by decide)))
    clear hgr hty hdd hBd HD HV HG hwd y0 y1 y2 y3 y4 q
    go_wp2_with fail
    go_loopw [4] (fun i wr => ∃ (k : Nat) (pv : Value), k ≤ c.parts.length ∧ i = .int .i64 k ∧ Hid (wr.heap[gd]? = some (.cells #[.int .i64 c.frame, .int .i64 c.quiet, pv, .slice a1 c.windows.length c1, .slice a2 c.ports.length c2] 26 (0, 0))) ∧ Hid (PartsOwn w wr wz.heap.size pv k c.parts) ∧ Hid (wr.ownsRow wz.heap.size 47 3 (.slice a1 c.windows.length c1) c.windows.length nw ∧ wr.ownsRow wz.heap.size 59 4 (.slice a2 c.ports.length c2) c.ports.length no) ∧ Below wz.heap.size wz wr) (fun i _ => c.parts.length - (intOf i).toNat)
    case atStart => exact ⟨0, _, by omega, rfl, HD2, Lib.hid ⟨[], World.ownsRow_nil _ _ _ _, fun i _ h => absurd h (by omega), fun i j _ h => absurd h (by omega)⟩, HV2, HB2.out⟩
    case round =>
      obtain ⟨k, pv, hk, rfl, HD, HP, HV, hB⟩ := hrel
      have HB := Lib.hid hB
      have HCr := Lib.hid (HC.out.ext (Ext.below hB))
      have z2 := HCr.out.c2
      clear hB
      by_cases hlt : k < c.parts.length
      · obtain ⟨pa', pcap, hpe, pl1, pl2, pl3, pcell⟩ := HPB.out
        injection hpe with e1 e2 e3
        subst e1; subst e3
        obtain ⟨b, off, rfl, hcell⟩ := pcell (by intro h; rw [h] at hlt; simp at hlt)
        obtain ⟨s0, st, sc, s1, s2, hpi⟩ := hcell k hlt
        obtain ⟨x, hx⟩ : ∃ x, x = c.parts[k] := ⟨_, rfl⟩
        rw [← hx] at s0 hpi
        have hext : ∀ W, Below wz.heap.size wz W → Ext w W := fun W h => Ext.below (bthen HBZ.out h)
        clear pcell hcell
        have HX := Lib.hid hx
        have HS := Lib.hid (And.intro s0 (And.intro s1 s2))
        have HE := Lib.hid hext
        clear hx s0 s1 s2 hext
        go_wp2_with fail
        have hext := HE.out
        obtain ⟨s0, s1, s2⟩ := HS.out
        refine region_each_lit rfl (by simp) (by kernel_rfl) copyU2 (CopyW w wr.heap.size wz.heap.size w.heap.size gd (.slice (some ⟨b, off, none⟩) c.parts.length pk) b (off + k * 3) st sc pv k x c.parts) 24 (fun bb W => Below wz.heap.size wz W ∧ W.heap[gd]? = some (.cells #[.int .i64 c.frame, .int .i64 c.quiet, pv, .slice a1 c.windows.length c1, .slice a2 c.ports.length c2] 26 (0, 0)) ∧ (W.ownsRow wz.heap.size 47 3 (.slice a1 c.windows.length c1) c.windows.length nw ∧ W.ownsRow wz.heap.size 59 4 (.slice a2 c.ports.length c2) c.ports.length no ∧ wr.heap.size ≤ W.heap.size) ∧ (bb = true → PartsLow w W wz.heap.size wr.heap.size pv k c.parts)) ⟨below_drew HB.out, HD.out, ⟨HV.out.1, HV.out.2, Nat.le_refl _⟩, fun _ => HP.out.low hk⟩ ?_ ?_
        · simp only [List.dropLast, List.map, putAll, Act.put, Each, List.setIfInBounds_toArray, List.set_cons_succ, List.set_cons_zero, Nat.reduceAdd, Nat.reduceEqDiff, reduceIte]
          refine ⟨?_, ?_, ?_, ?_, ?_, ?_, ?_, ?_, ?_, ?_, ?_, ?_, ?_, ?_, ?_, ?_, ?_, ?_, ?_, ?_, ?_, ?_, ?_, ?_, ?_, ?_, trivial⟩
          · intro vs W bb hb1 hb2 hG hr K' hK
            have HK := Lib.hid hK
            clear hK
            go_simp
            exact HK.out _ W hG (fun _ _ _ _ _ h => h) rfl
          · intro vs W bb hb1 hb2 hG hr K' hK
            have r0 : vs 0 = .pointer (some ⟨gd, 2, none⟩) := hr 0 rfl (.inl rfl)
            have z0 : W.cell? ⟨gd, 2, none⟩ = some pv := BlockIs.of hG.2.1 2 _ rfl
            simp only [r0] at hK ⊢
            have HK := Lib.hid hK
            clear hK
            go_simp
            exact HK.out _ W hG (fun _ _ _ _ _ h => h) ⟨rfl, hG.2.2.2 (hb2 _ rfl rfl)⟩
          · intro vs W bb hb1 hb2 hG hr K' hK
            have HK := Lib.hid hK
            clear hK
            go_simp
            exact HK.out _ W hG (fun _ _ _ _ _ h => h) rfl
          · intro vs W bb hb1 hb2 hG hr K' hK
            have r2 : vs 2 = .pointer (some ⟨w.heap.size, 2, none⟩) := hr 2 rfl (.inl rfl)
            have z0 : W.cell? ⟨w.heap.size, 2, none⟩ = some (.slice (some ⟨b, off, none⟩) c.parts.length pk) := Ext.below hG.1 _ _ HC.out.c2
            simp only [r2] at hK ⊢
            have HK := Lib.hid hK
            clear hK
            go_simp
            exact HK.out _ W hG (fun _ _ _ _ _ h => h) rfl
          · intro vs W bb hb1 hb2 hG hr K' hK
            have HK := Lib.hid hK
            clear hK
            go_simp
            exact HK.out _ W hG (fun _ _ _ _ _ h => h) rfl
          · intro vs W bb hb1 hb2 hG hr K' hK
            have r3 : vs 3 = .slice (some ⟨b, off, none⟩) c.parts.length pk := hr 3 rfl (.inl rfl)
            have r4 : vs 4 = .int .i64 k := hr 4 rfl (.inl rfl)
            simp only [r3, r4] at hK ⊢
            have HK := Lib.hid hK
            clear hK
            go_simp
            exact HK.out _ W hG (fun _ _ _ _ _ h => h) rfl
          · intro vs W bb hb1 hb2 hG hr K' hK
            have r5 : vs 5 = .pointer (some ⟨b, off + k * 3, none⟩) := hr 5 rfl (.inl rfl)
            simp only [r5] at hK ⊢
            have HK := Lib.hid hK
            clear hK
            go_simp
            exact HK.out _ W hG (fun _ _ _ _ _ h => h) rfl
          · intro vs W bb hb1 hb2 hG hr K' hK
            have r6 : vs 6 = .pointer (some ⟨b, off + k * 3, none⟩) := hr 6 rfl (.inl rfl)
            have z0 : W.cell? ⟨b, off + k * 3, none⟩ = some (.int .i64 x.level) := hext W hG.1 _ _ s0
            simp only [r6] at hK ⊢
            have HK := Lib.hid hK
            clear hK
            go_simp
            exact HK.out _ W hG (fun _ _ _ _ _ h => h) rfl
          · intro vs W bb hb1 hb2 hG hr K' hK
            have HK := Lib.hid hK
            clear hK
            go_simp
            exact HK.out _ W hG (fun _ _ _ _ _ h => h) rfl
          · intro vs W bb hb1 hb2 hG hr K' hK
            have r8 : vs 8 = .pointer (some ⟨w.heap.size, 2, none⟩) := hr 8 rfl (.inl rfl)
            have z0 : W.cell? ⟨w.heap.size, 2, none⟩ = some (.slice (some ⟨b, off, none⟩) c.parts.length pk) := Ext.below hG.1 _ _ HC.out.c2
            simp only [r8] at hK ⊢
            have HK := Lib.hid hK
            clear hK
            go_simp
            exact HK.out _ W hG (fun _ _ _ _ _ h => h) rfl
          · intro vs W bb hb1 hb2 hG hr K' hK
            have HK := Lib.hid hK
            clear hK
            go_simp
            exact HK.out _ W hG (fun _ _ _ _ _ h => h) rfl
          · intro vs W bb hb1 hb2 hG hr K' hK
            have r9 : vs 9 = .slice (some ⟨b, off, none⟩) c.parts.length pk := hr 9 rfl (.inl rfl)
            have r10 : vs 10 = .int .i64 k := hr 10 rfl (.inl rfl)
            simp only [r9, r10] at hK ⊢
            have HK := Lib.hid hK
            clear hK
            go_simp
            exact HK.out _ W hG (fun _ _ _ _ _ h => h) rfl
          · intro vs W bb hb1 hb2 hG hr K' hK
            have r11 : vs 11 = .pointer (some ⟨b, off + k * 3, none⟩) := hr 11 rfl (.inl rfl)
            simp only [r11] at hK ⊢
            have HK := Lib.hid hK
            clear hK
            go_simp
            exact HK.out _ W hG (fun _ _ _ _ _ h => h) rfl
          · intro vs W bb hb1 hb2 hG hr K' hK
            have r12 : vs 12 = .pointer (some ⟨b, off + k * 3 + 1, none⟩) := hr 12 rfl (.inl rfl)
            have z0 : W.cell? ⟨b, off + k * 3 + 1, none⟩ = some st := hext W hG.1 _ _ s1
            simp only [r12] at hK ⊢
            have HK := Lib.hid hK
            clear hK
            go_simp
            exact HK.out _ W hG (fun _ _ _ _ _ h => h) rfl
          · intro vs W bb hb1 hb2 hG hr K' hK
            have r13 : vs 13 = st := hr 13 rfl (.inl rfl)
            simp only [r13] at hK ⊢
            have HK := Lib.hid hK
            have HG := Lib.hid hG
            clear hK hG hr
            go_simp
            go_at_call 20
            refine (CopyTasks_any st _ w W (hext W HG.out.1) hpi.tasks).mono ?_
            rintro e w' ⟨v', nt, rfl, hown, hback, hb⟩
            exact HK.out v' w' ⟨bthen HG.out.1 hb, (hb.block gd (lt_of_block HG.out.2.1)).trans HG.out.2.1, ⟨Below.kept HG.out.2.2.1.1 hb, Below.kept HG.out.2.2.1.2.1 hb, Nat.le_trans HG.out.2.2.1.2.2 hb.size⟩, fun h => (HG.out.2.2.2 h).below hb⟩ (fun j u _ _ _ h => copyW_below hb j u h) ⟨nt, own_lower hown HG.out.2.2.1.2.2, hback⟩
          · intro vs W bb hb1 hb2 hG hr K' hK
            have HK := Lib.hid hK
            clear hK
            go_simp
            exact HK.out _ W hG (fun _ _ _ _ _ h => h) rfl
          · intro vs W bb hb1 hb2 hG hr K' hK
            have r15 : vs 15 = .pointer (some ⟨w.heap.size, 2, none⟩) := hr 15 rfl (.inl rfl)
            have z0 : W.cell? ⟨w.heap.size, 2, none⟩ = some (.slice (some ⟨b, off, none⟩) c.parts.length pk) := Ext.below hG.1 _ _ HC.out.c2
            simp only [r15] at hK ⊢
            have HK := Lib.hid hK
            clear hK
            go_simp
            exact HK.out _ W hG (fun _ _ _ _ _ h => h) rfl
          · intro vs W bb hb1 hb2 hG hr K' hK
            have HK := Lib.hid hK
            clear hK
            go_simp
            exact HK.out _ W hG (fun _ _ _ _ _ h => h) rfl
          · intro vs W bb hb1 hb2 hG hr K' hK
            have r16 : vs 16 = .slice (some ⟨b, off, none⟩) c.parts.length pk := hr 16 rfl (.inl rfl)
            have r17 : vs 17 = .int .i64 k := hr 17 rfl (.inl rfl)
            simp only [r16, r17] at hK ⊢
            have HK := Lib.hid hK
            clear hK
            go_simp
            exact HK.out _ W hG (fun _ _ _ _ _ h => h) rfl
          · intro vs W bb hb1 hb2 hG hr K' hK
            have r18 : vs 18 = .pointer (some ⟨b, off + k * 3, none⟩) := hr 18 rfl (.inl rfl)
            simp only [r18] at hK ⊢
            have HK := Lib.hid hK
            clear hK
            go_simp
            exact HK.out _ W hG (fun _ _ _ _ _ h => h) rfl
          · intro vs W bb hb1 hb2 hG hr K' hK
            have r19 : vs 19 = .pointer (some ⟨b, off + k * 3 + 2, none⟩) := hr 19 rfl (.inl rfl)
            have z0 : W.cell? ⟨b, off + k * 3 + 2, none⟩ = some sc := hext W hG.1 _ _ s2
            simp only [r19] at hK ⊢
            have HK := Lib.hid hK
            clear hK
            go_simp
            exact HK.out _ W hG (fun _ _ _ _ _ h => h) rfl
          · intro vs W bb hb1 hb2 hG hr K' hK
            have r20 : vs 20 = sc := hr 20 rfl (.inl rfl)
            simp only [r20] at hK ⊢
            have HK := Lib.hid hK
            have HG := Lib.hid hG
            clear hK hG hr
            go_simp
            go_at_call 21
            refine (CopyInstrs_any sc _ w W (hext W HG.out.1) hpi.code).mono ?_
            rintro e w' ⟨v', nt, rfl, hown, hback, hb⟩
            exact HK.out v' w' ⟨bthen HG.out.1 hb, (hb.block gd (lt_of_block HG.out.2.1)).trans HG.out.2.1, ⟨Below.kept HG.out.2.2.1.1 hb, Below.kept HG.out.2.2.1.2.1 hb, Nat.le_trans HG.out.2.2.1.2.2 hb.size⟩, fun h => (HG.out.2.2.2 h).below hb⟩ (fun j u _ _ _ h => copyW_below hb j u h) ⟨nt, own_lower hown HG.out.2.2.1.2.2, hback⟩
          · intro vs W bb hb1 hb2 hG hr K' hK
            have r7 : vs 7 = .int .i64 x.level := hr 7 rfl (.inl rfl)
            obtain ⟨nt, r14, b14⟩ : ∃ nt, W.ownsRow wr.heap.size 44 6 (vs 14) x.tasks.length nt ∧ (∀ W' b u, Ext w W' → W'.ownsRow b 44 6 u x.tasks.length nt → TasksV W' u x.tasks) := hr 14 rfl (.inl rfl)
            obtain ⟨nc, r21, b21⟩ : ∃ nc, W.ownsRow wr.heap.size 64 2 (vs 21) x.code.length nc ∧ (∀ W' b u, Ext w W' → W'.ownsRow b 64 2 u x.code.length nc → CodeV W' u x.code) := hr 21 rfl (.inl rfl)
            obtain ⟨a7, c7, h7⟩ := own_shape r14
            obtain ⟨a11, c11, h11⟩ := own_shape r21
            rw [h7] at r14
            rw [h11] at r21
            simp only [r7, h7, h11] at hK ⊢
            have HK := Lib.hid hK
            have HQ := Lib.hid (show PartOwn w W wr.heap.size _ _ x from ⟨nt, nc, r14, r21, b14, b21⟩)
            clear hK r14 r21 b14 b21 r7 h7 h11
            go_simp
            exact HK.out _ W hG (fun _ _ _ _ _ h => h) ⟨_, _, rfl, HQ.out⟩
          · intro vs W bb hb1 hb2 hG hr K' hK
            obtain ⟨tv, cv, r22, hpo⟩ : ∃ tv cv, vs 22 = .agg #[.int .i64 x.level, tv, cv] ∧ PartOwn w W wr.heap.size tv cv x := hr 22 rfl (.inl rfl)
            have hpo' := hpo
            obtain ⟨nt, nc, r14, r21, -⟩ := hpo'
            obtain ⟨a7, c7, rfl⟩ := own_shape r14
            obtain ⟨a11, c11, rfl⟩ := own_shape r21
            simp only [r22] at hK ⊢
            have HK := Lib.hid hK
            have HG := Lib.hid hG
            have HQ : Hid (PartOwn w W wr.heap.size _ _ x) := Lib.hid hpo
            clear hK r14 r21 r22 hG hpo
            go_simp
            exact HK.out _ _ ⟨bthen HG.out.1 (balloc _ _), ((balloc _ _).block gd (lt_of_block HG.out.2.1)).trans HG.out.2.1, ⟨Below.kept HG.out.2.2.1.1 (balloc _ _), Below.kept HG.out.2.2.1.2.1 (balloc _ _), Nat.le_trans HG.out.2.2.1.2.2 (balloc _ _).size⟩, fun h => (HG.out.2.2.2 h).below (balloc _ _)⟩ (fun j u _ _ _ h => copyW_below (balloc _ _) j u h) ⟨W.heap.size, _, _, rfl, blk_new _ _, HQ.out.below (balloc _ _)⟩
          · intro vs W bb hb1 hb2 hG hr K' hK
            obtain ⟨r1, L, hL, hLi, hlow⟩ : vs 1 = pv ∧ PartsLow w W wz.heap.size wr.heap.size pv k c.parts := hr 1 rfl (.inr rfl)
            obtain ⟨q, tv, cv, r23, hq, hpo⟩ : ∃ q tv cv, vs 23 = .slice (some ⟨q, 0, none⟩) 1 1 ∧ W.heap[q]? = some (.cells #[.int .i64 x.level, tv, cv] 42 (0, 0)) ∧ PartOwn w W wr.heap.size tv cv x := hr 23 rfl (.inr rfl)
            have hpo' := hpo
            obtain ⟨nt, nc, r14, r21, -⟩ := hpo'
            obtain ⟨a7, c7, rfl⟩ := own_shape r14
            obtain ⟨a11, c11, rfl⟩ := own_shape r21
            refine wp_onto W (.tmp 26) (.tmp 48) 22 rfl wz.heap.size 42 _ 3 56 Try.underlying22 infoPart rfl (by decide) (vs 1) k L rfl (by rw [r1]; exact hL) 1 [.int .i64 x.level, .slice a7 x.tasks.length c7, .slice a11 x.code.length c11] ?_ rfl (by intro u hu; simp at hu; rcases hu with rfl | rfl | rfl <;> rfl) (by omega) (by omega) hG.1.size ?_
            · show Src W (vs 23) _ _
              rw [r23]
              refine .inr ⟨_, _, rfl, fun j u hu => ?_⟩
              rw [addr_add, Nat.zero_add]
              exact BlockIs.of hq j u (by simpa using hu)
            · intro v' W' hown hg
              rw [r1] at hg
              have hty : ∀ g, pv.ownBlock = some g → Typed W g 42 := fun g hg => own_typed hL hg
              simp only [Act.put, List.setIfInBounds_toArray, List.set_cons_succ, List.set_cons_zero]
              refine hK v' W' ⟨hG.1.grown hg hG.1.size (fun k hk => (hL.lt k hk).1), typed_apart hG.2.1 hg hty (by decide), ⟨own_apart hG.2.2.1.1 hg hty (by decide), own_apart hG.2.2.1.2.1 hg hty (by decide), Nat.le_trans hG.2.2.1.2.2 hg.size⟩, fun h => absurd h (by decide)⟩ (fun j u h1 h2 _ h => copyW_part hg hty j u (fun e => h2 (by rw [e]; rfl)) (fun e => h2 (by rw [e]; rfl)) h1 h) ?_
              have hxx := HX.out
              have hf : ∀ i, i < k → ∀ tv' : Value, L[i * 3 + 1]? = some tv' → ∀ g, tv'.ownBlock = some g → (Value.slice a7 x.tasks.length c7).ownBlock ≠ some g := fun i hi t ht g hg1 hg2 => by
                have a := hlow i hi t ht g hg1
                have b := own_above r14 hg2
                omega
              exact PartsOwn.snoc hL hLi hlt (hxx ▸ hpo.lower HB.out.size) (hxx ▸ hown) hg (hxx ▸ hf)
          · intro vs W bb hb1 hb2 hG hr K' hK
            have HK := Lib.hid hK
            clear hK
            go_simp
            exact HK.out _ W hG (fun _ _ _ _ _ h => h) rfl
        · intro vs W hG hV
          simp only [List.getLast, List.dropLast, List.map, putAll, Act.put, List.setIfInBounds_toArray, List.set_cons_succ, List.set_cons_zero, Nat.reduceAdd]
          have r24 : PartsOwn w W wz.heap.size (vs 24) (k + 1) c.parts := hV 24 (by simp only [List.dropLast, List.length_cons, List.length_nil]; omega) rfl
          have r25 : vs 25 = .pointer (some ⟨gd, 2, none⟩) := hV 25 (by simp only [List.dropLast, List.length_cons, List.length_nil]; omega) rfl
          obtain ⟨a3, c3, h3⟩ : ∃ a3 c3, vs 24 = .slice a3 (k + 1) c3 := own_shape r24.choose_spec.1
          rw [h3] at r24
          have y2 : W.cell? ⟨gd, 2, none⟩ = some pv := BlockIs.of hG.2.1 2 _ rfl
          have q : W.frozen? ⟨gd, 2, none⟩ = false := by unfold World.frozen?; rw [hG.2.1]; simp
          simp only [r25, h3]
          have HG := Lib.hid hG
          have HQ := Lib.hid r24
          clear hG hV r24 r25 h3
          go_simp
          have hgr : W.grownBy (W.setCell ⟨gd, 2, none⟩ (.slice a3 (k + 1) c3)) (some gd) := set_grown _ _ _ _
          have hty : ∀ g, some gd = some g → Typed W g 26 := fun g hg => by injection hg with hg; subst hg; exact ⟨_, HG.out.2.1⟩
          have R1 := Lib.hid (blk_set HG.out.2.1 2 (.slice a3 (k + 1) c3))
          have R2 := Lib.hid (HQ.out.apart hgr hty (by decide) (by decide) (by decide))
          have R3 := Lib.hid (And.intro (own_apart HG.out.2.2.1.1 hgr hty (by decide)) (own_apart HG.out.2.2.1.2.1 hgr hty (by decide)))
          have R4 := Lib.hid (HG.out.1.grown hgr HG.out.1.size (fun k hk => by injection hk with hk; omega))
          clear hgr hty HG HQ q y2
          go_wp2_with fail
          go_roundw
          case rel => exact ⟨k + 1, _, by omega, by go_num, R1, R2, R3, R4.out⟩
          case measure => simp [intOf]; omega
      · obtain rfl : k = c.parts.length := by omega
        have y := BlockIs.of HD.out
        have y0 := y 0 _ rfl
        have y1 := y 1 _ rfl
        have y2 := y 2 _ rfl
        have y3 := y 3 _ rfl
        have y4 := y 4 _ rfl
        clear y
        obtain ⟨L, hL, hLi, -⟩ := HP.out
        obtain ⟨a3, c3, rfl⟩ := own_shape hL
        have hrz : wr.heap[w.heap.size + 1]? = some (.cells #[.int .i64 0, .int .i64 0, .slice none 0 0, .slice none 0 0, .slice none 0 0] 26 (0, 0)) := (HB.out.block _ (by omega)).trans HR.out
        have q := BlockIs.of hrz
        have q0 := q 0 _ rfl
        have q1 := q 1 _ rfl
        have q2 := q 2 _ rfl
        have q3 := q 3 _ rfl
        have q4 := q 4 _ rfl
        have qf : ∀ k, wr.frozen? ⟨w.heap.size + 1, k, none⟩ = false := fun k => by unfold World.frozen?; rw [hrz]; simp
        have HRZ := Lib.hid hrz
        clear q hrz hL hLi
        go_wp2_with fail
        obtain ⟨we, hwe⟩ : ∃ we, we = (((((wr.setCell { block := w.heap.size + 1, off := 0 } (Value.int IntKind.i64 c.frame)).setCell { block := w.heap.size + 1, off := 1 } (Value.int IntKind.i64 c.quiet)).setCell { block := w.heap.size + 1, off := 2 } (.slice a3 c.parts.length c3)).setCell { block := w.heap.size + 1, off := 3 } (Value.slice a1 c.windows.length c1)).setCell { block := w.heap.size + 1, off := 4 } (Value.slice a2 c.ports.length c2)) := ⟨_, rfl⟩
        rw [← hwe]
        have hgr : wr.grownBy we (some (w.heap.size + 1)) := by
          rw [hwe]
          exact ((((set_grown _ _ _ _).trans (set_grown _ _ _ _)).trans (set_grown _ _ _ _)).trans (set_grown _ _ _ _)).trans (set_grown _ _ _ _)
        have hty : ∀ g, some (w.heap.size + 1) = some g → Typed wr g 26 := fun g hg => by injection hg with hg; subst hg; exact ⟨_, HRZ.out⟩
        have hdd : we.heap[w.heap.size + 1]? = some (.cells #[.int .i64 c.frame, .int .i64 c.quiet, .slice a3 c.parts.length c3, .slice a1 c.windows.length c1, .slice a2 c.ports.length c2] 26 (0, 0)) := by
          rw [hwe]
          exact blk_set (blk_set (blk_set (blk_set (blk_set HRZ.out 0 _) 1 _) 2 _) 3 _) 4 _
        have hBe : Below w.heap.size w we := (bthen HBZ.out HB.out).grown hgr (by have := HB.out.size; omega) (fun k hk => by injection hk with hk; omega)
        have x := BlockIs.of hdd
        have x0 := x 0 _ rfl
        have x1 := x 1 _ rfl
        have x2 := x 2 _ rfl
        have x3 := x 3 _ rfl
        have x4 := x 4 _ rfl
        have hex : Ext w we := Ext.below hBe
        have hres : CfgOwn w we w.heap.size (.slice a3 c.parts.length c3) (.slice a1 c.windows.length c1) (.slice a2 c.ports.length c2) c :=
          ⟨(HP.out.apart hgr hty (by decide) (by decide) (by decide)).lower (by omega), ⟨nw, own_lower (own_apart HV.out.1 hgr hty (by decide)) (by omega), fun W' b u => HW.out.2.2.2 W' b _ u⟩, ⟨no, own_lower (own_apart HV.out.2 hgr hty (by decide)) (by omega), fun W' b u => HO.out.2.2.2 W' b _ u⟩, HPB.out.choose_spec.choose_spec.2.1⟩
        have HRes := Lib.hid hres
        have HBe := Lib.hid hBe
        clear x hgr hty hdd hBe hex hres hwe
        refine bodyPost_ret (v := .agg #[.int .i64 c.frame, .int .i64 c.quiet, .slice a3 c.parts.length c3, .slice a1 c.windows.length c1, .slice a2 c.ports.length c2]) (by simp [results, Try.results9, go_sem, x0, x1, x2, x3, x4]) rfl ⟨_, _, _, rfl, HRes.out, HBe.out⟩
theorem copyCfg_any (c : Config) (v : Value) (w : World) (hc : CfgV w v c) :
    Calls Try.prog 9 #[v] w fun e w' => ∃ v', e = .returned v' ∧ CfgV w' v' c ∧ Below w.heap.size w w' :=
  (copyCfg_own c v w hc).mono fun _ _ ⟨_, _, _, he, ho, hb⟩ => ⟨_, he, ⟨_, _, _, rfl, ho.is (Ext.below hb)⟩, hb⟩
end Go.Proofs.Ythnecccakeminaa
