/- package ports: New (printed by gen17c.py). -/
import Derived.Test.YtkjjfidbmkpljaaCar
import Derived.Test.YtkjjfidbmkpljaaChk7
import Derived.Deep.CutBlock
set_option linter.unusedVariables false
set_option linter.unusedSimpArgs false
namespace Go.Proofs.Ytkjjfidbmkpljaa
open Go.RowKit

def lineCells (x : Port) (c : Car) : List Value := [.int .i64 x.kind, .int .i64 x.from_, .int .i64 x.to_, .int .i64 x.size, c.val]
theorem infoLine : (Try.prog.info? 80).map (fun i => (i.zero, i.size, i.bytes)) = some (some (.agg #[.int .i64 0, .int .i64 0, .int .i64 0, .int .i64 0, .nilIface]), 5, 48) := by kernel_rfl
theorem line_one (x : Port) (c : Car) : ∀ u ∈ lineCells x c, u.oneCell' = true := by
  intro u hu
  cases c <;> (simp only [lineCells, Car.val, List.mem_cons, List.not_mem_nil, or_false] at hu; rcases hu with rfl | rfl | rfl | rfl | rfl <;> rfl)
/-- A port, what it carries values in, its values. -/
structure Ln where
  p : Port
  c : Car
  q : List Int
def Ln.k (l : Ln) : Nat := l.p.size.toNat
theorem SmpAt.keep {W W' : World} {g : Nat} {q : List Int} (h : SmpAt W g q) (hb : Below W.heap.size W W') : SmpAt W' g q := ⟨h.1, keep_at h.2 hb⟩
theorem SmpAt.apart {W W' : World} {g : Nat} {q : List Int} (h : SmpAt W g q) {r : Option Nat} {t : TypeId} (hg : W.grownBy W' r) (hr : ∀ g, r = some g → Typed W g t) (hne : 124 ≠ t) : SmpAt W' g q := ⟨h.1, typed_apart h.2 hg hr hne⟩
theorem CarAt.heap {W W' : World} {c : Car} {k : Nat} {q : List Int} (h : CarAt W c k q) (hh : W'.heap = W.heap) : CarAt W' c k q := by
  cases c with
  | smp g => exact ⟨h.1, by rw [hh]; exact h.2⟩
  | que qb rb => exact ⟨by rw [hh]; exact h.1, h.2.keep (by rw [hh])⟩
theorem CarAt.keep {W W' : World} {c : Car} {k : Nat} {q : List Int} (h : CarAt W c k q) (hb : Below W.heap.size W W') : CarAt W' c k q := by
  cases c with
  | smp g => exact SmpAt.keep h hb
  | que qb rb => exact ⟨keep_at h.1 hb, h.2.keep (hb.block _ h.2.lt)⟩
theorem CarAt.apart {W W' : World} {c : Car} {k : Nat} {q : List Int} (h : CarAt W c k q) {r : Option Nat} {t : TypeId} (hg : W.grownBy W' r) (hr : ∀ g, r = some g → Typed W g t) (h1 : 124 ≠ t) (h2 : 129 ≠ t) (h3 : 139 ≠ t) : CarAt W' c k q := by
  cases c with
  | smp g => exact SmpAt.apart h hg hr h1
  | que qb rb =>
    obtain ⟨hq, cs, f, hring⟩ := h
    exact ⟨typed_apart hq hg hr h2, cs, f, ⟨typed_apart hring.blk hg hr h3, hring.len, hring.k1, hring.k2, hring.fk, hring.qk, hring.at_⟩⟩
def NaV (pb g : Nat) (r : Value) (x : Port) (i : Nat) (v : Value) : Prop := match i with
  | 0 => v = .pointer (some ⟨pb, 0, none⟩)
  | 1 => v = .pointer (some ⟨pb, 0, none⟩)
  | 2 => v = .pointer (some ⟨pb, 0, none⟩)
  | 3 => v = .pointer (some ⟨pb, 0, none⟩)
  | 4 => v = r
  | 5 => v = .agg #[.int .i64 x.kind, .int .i64 x.from_, .int .i64 x.to_, .int .i64 x.size]
  | 6 => v = .pointer (some ⟨g, 0, none⟩)
  | 7 => v = .agg #[.pointer (some ⟨g, 0, none⟩)]
  | 8 => v = .iface 76 (.agg #[.pointer (some ⟨g, 0, none⟩)])
  | 9 => v = .agg #[.int .i64 x.kind, .int .i64 x.from_, .int .i64 x.to_, .int .i64 x.size, .iface 76 (.agg #[.pointer (some ⟨g, 0, none⟩)])]
  | 12 => v = .pointer (some ⟨pb, 0, none⟩)
  | 13 => v = .pointer (some ⟨pb, 0, none⟩)
  | _ => True
def NbV (pb g : Nat) (r : Value) (x : Port) (i : Nat) (v : Value) : Prop := match i with
  | 0 => v = .pointer (some ⟨pb, 0, none⟩)
  | 1 => v = .pointer (some ⟨pb, 0, none⟩)
  | 2 => v = .pointer (some ⟨pb, 0, none⟩)
  | 3 => v = .pointer (some ⟨pb, 0, none⟩)
  | 4 => v = r
  | 5 => v = .agg #[.int .i64 x.kind, .int .i64 x.from_, .int .i64 x.to_, .int .i64 x.size]
  | 6 => v = .pointer (some ⟨g, 0, none⟩)
  | 7 => v = .agg #[.pointer (some ⟨g, 0, none⟩)]
  | 8 => v = .iface 85 (.agg #[.pointer (some ⟨g, 0, none⟩)])
  | 9 => v = .agg #[.int .i64 x.kind, .int .i64 x.from_, .int .i64 x.to_, .int .i64 x.size, .iface 85 (.agg #[.pointer (some ⟨g, 0, none⟩)])]
  | 12 => v = .pointer (some ⟨pb, 0, none⟩)
  | 13 => v = .pointer (some ⟨pb, 0, none⟩)
  | _ => True
/-- What holds while a region of New runs that makes a line: its row, its block, the lines that there are. -/
structure NewInv (w wr : World) (pb : Nat) (r : Value) (n : Nat) (xs cs : List Value) (Ls : List Ln) (PV : Nat → Value → Prop) (P1 : World → Prop) (iC : Nat) (L : Nat → Bool) (vs : Nat → Value) (W : World) : Prop where
  pv : ∀ i, L i = true → PV i (vs i)
  below : Below w.heap.size w W
  bel : L 11 = false → Below wr.heap.size wr W
  c0 : L iC = false → W.heap = wr.heap
  c1 : L iC = true → P1 W
  new : L 11 = false → L 10 = true → ∃ g, vs 10 = .slice (some ⟨g, 0, none⟩) 1 1 ∧ W.heap[g]? = some (.cells cs.toArray 80 (0, 0))
  res : L 11 = true → W.ownsRow w.heap.size 80 5 (vs 11) (n + 1) (xs ++ cs)
  cell0 : L 14 = false → W.heap[pb]? = some (.cells #[r] 72 (0, 0))
  cell1 : L 14 = true → W.heap[pb]? = some (.cells #[vs 11] 72 (0, 0))
  cars : ∀ l ∈ Ls, CarAt W l.c l.k l.q
def Car.all : Car → List Nat
  | .smp g => [g]
  | .que qb rb => [qb, rb]
/-- The ports: the block pb holds the row of lines; all their blocks are from lo on and below hi. -/
structure PortsAt (W : World) (pb lo hi : Nat) (Ls : List Ln) : Prop where
  pb1 : lo ≤ pb
  pb2 : pb < hi
  hi2 : hi ≤ W.heap.size
  row : ∃ v, W.heap[pb]? = some (.cells #[v] 72 (0, 0)) ∧ W.ownsRow lo 80 5 v Ls.length (Ls.flatMap (fun l => lineCells l.p l.c)) ∧ ∀ g, v.ownBlock = some g → g < hi
  cars : ∀ l ∈ Ls, CarAt W l.c l.k l.q
  blks : ∀ l ∈ Ls, ∀ b ∈ l.c.all, lo ≤ b ∧ b < hi
  kind : ∀ l ∈ Ls, (l.p.kind = 0 ∧ ∃ g, l.c = .smp g) ∨ (l.p.kind = 1 ∧ ∃ qb rb, l.c = .que qb rb)
  ne : Ls.Pairwise (fun a b => a.c.blk ≠ b.c.blk)
theorem PortsAt.add {W : World} {pb B hi0 : Nat} {Ls : List Ln} {x : Port} {c : Car} {v : Value} {n : Nat} (h1 : B ≤ pb) (h2 : pb < hi0) (h3 : hi0 ≤ W.heap.size) (hn : n = Ls.length) (hc : W.heap[pb]? = some (.cells #[v] 72 (0, 0)))
    (hrow : W.ownsRow B 80 5 v (n + 1) (Ls.flatMap (fun l => lineCells l.p l.c) ++ lineCells x c)) (hcars : ∀ l ∈ Ls, CarAt W l.c l.k l.q) (hb : ∀ l ∈ Ls, ∀ b ∈ l.c.all, B ≤ b ∧ b < hi0)
    (hk : ∀ l ∈ Ls, (l.p.kind = 0 ∧ ∃ g, l.c = .smp g) ∨ (l.p.kind = 1 ∧ ∃ qb rb, l.c = .que qb rb)) (hne : Ls.Pairwise (fun a b => a.c.blk ≠ b.c.blk))
    (hx : CarAt W c x.size.toNat []) (hxb : ∀ b ∈ c.all, hi0 ≤ b ∧ b < W.heap.size) (hB : B ≤ hi0) (hxk : (x.kind = 0 ∧ ∃ g, c = .smp g) ∨ (x.kind = 1 ∧ ∃ qb rb, c = .que qb rb)) : PortsAt W pb B W.heap.size (Ls ++ [⟨x, c, []⟩]) := by
  have hmem : ∀ c : Car, c.blk ∈ c.all := fun c => by cases c <;> simp [Car.blk, Car.all]
  subst hn
  refine ⟨h1, by omega, Nat.le_refl _, ⟨v, hc, by rw [List.length_append, List.flatMap_append]; simpa using hrow, fun g hg => (hrow.lt g hg).2⟩, ?_, ?_, ?_, ?_⟩
  · intro l hl
    rcases List.mem_append.1 hl with hl | hl
    · exact hcars l hl
    · rw [List.mem_singleton.1 hl]; exact hx
  · intro l hl b hbm
    rcases List.mem_append.1 hl with hl | hl
    · have := hb l hl b hbm; omega
    · rw [List.mem_singleton.1 hl] at hbm; have := hxb b hbm; omega
  · intro l hl
    rcases List.mem_append.1 hl with hl | hl
    · exact hk l hl
    · rw [List.mem_singleton.1 hl]; exact hxk
  · rw [List.pairwise_append]
    refine ⟨hne, by simp, fun a ha b hb' => ?_⟩
    rw [List.mem_singleton.1 hb']
    have := hb a ha a.c.blk (hmem _)
    have := hxb c.blk (hmem _)
    simp only
    omega
theorem ports_of_check {c : Config} (h : checkCfg c = 0) : c.ports.length ≤ 8 ∧ ∀ x ∈ c.ports, (x.kind = 0 ∨ x.kind = 1) ∧ 1 ≤ x.size ∧ x.size ≤ 8 := by
  unfold checkCfg at h
  by_cases h1 : c.frame < 1 ∨ c.frame > 256 ∨ c.quiet < 1 ∨ c.quiet > 16
  · rw [if_pos h1] at h; simp at h
  rw [if_neg h1] at h
  by_cases h2 : c.parts.length < 1 ∨ c.parts.length > 8 ∨ c.parts.any (fun p => !levelMay p) = true
  · rw [if_pos h2] at h; simp at h
  rw [if_neg h2] at h
  by_cases h3 : c.parts.any (fun p => !tasksMay p) = true
  · rw [if_pos h3] at h; simp at h
  rw [if_neg h3] at h
  by_cases h4 : windowsMay c = false
  · rw [if_pos h4] at h; simp at h
  rw [if_neg h4] at h
  by_cases h5 : c.ports.length > 8 ∨ c.ports.any (fun p => !portMay c.parts p) = true
  · rw [if_pos h5] at h; simp at h
  refine ⟨by omega, fun x hx => ?_⟩
  have hm : portMay c.parts x = true := by
    cases hq : portMay c.parts x
    · exact absurd (.inr (List.any_eq_true.2 ⟨x, hx, by rw [hq]; rfl⟩)) h5
    · rfl
  unfold portMay at hm
  simp only [Bool.and_eq_true, decide_eq_true_eq] at hm
  have := hm.1.1
  split at this <;> omega
set_option maxRecDepth 100000 in
set_option maxHeartbeats 16000000 in
theorem ports_new (c : Config) (v : Value) (w : World) (hc : CfgV w v c) :
    Calls Try.prog 9 #[v] w fun e w' => (checkCfg c ≠ 0 → e = .returned (.tuple #[.pointer none, .int .i64 1700])) ∧ (checkCfg c = 0 → ∃ pb Ls, e = .returned (.tuple #[.pointer (some ⟨pb, 0, none⟩), .int .i64 0]) ∧ PortsAt w' pb w.heap.size w'.heap.size Ls ∧ Ls.map (·.p) = c.ports ∧ ∀ l ∈ Ls, l.q = []) ∧ Below w.heap.size w w' := by
  obtain ⟨pv, wv, ov, rfl, hcfg⟩ := id hc
  go_enter Try.func9, Try.ntmps9
  obtain ⟨wa, hw_wa⟩ : ∃ wa, wa = w.alloc (.cells #[.int .i64 c.frame, .int .i64 c.quiet, pv, wv, ov] 26) := ⟨_, rfl⟩
  obtain ⟨ga, hg_ga⟩ : ∃ ga, ga = w.heap.size := ⟨_, rfl⟩
  have hb_wa : Below w.heap.size w wa := by rw [hw_wa]; exact balloc _ _
  have hk_ga : wa.heap[ga]? = some (.cells #[.int .i64 c.frame, .int .i64 c.quiet, pv, wv, ov] 26 (0, 0)) := by rw [hw_wa, hg_ga]; exact blk_new _ _
  have hs_wa : wa.heap.size = w.heap.size + 1 := by rw [hw_wa]; simp
  have HA := Lib.hid hk_ga
  have HBA := Lib.hid hb_wa
  have HCF := Lib.hid (hcfg.ext (Ext.below hb_wa))
  have HGA := Lib.hid hg_ga
  have y0 := BlockIs.of hk_ga 0 _ rfl
  have y1 := BlockIs.of hk_ga 1 _ rfl
  have y2 := BlockIs.of hk_ga 2 _ rfl
  have y3 := BlockIs.of hk_ga 3 _ rfl
  have y4 := BlockIs.of hk_ga 4 _ rfl
  clear hk_ga hb_wa hs_wa
  go_wp2_with fail
  rw [← hw_wa, ← hg_ga]
  clear hw_wa hg_ga
  refine (check_any c _ _ ⟨_, _, _, rfl, HCF.out⟩).mono ?_
  by_cases hck : checkCfg c = 0
  · rw [hck]
    rintro e w1 ⟨rfl, hb⟩
    have hA1 := keep_at HA.out hb
    have HB1 := Lib.hid (bthen HBA.out hb)
    have HPV := Lib.hid hcfg.ports
    have hpc := ports_of_check hck
    have hp8 := hpc.1
    have HPC := Lib.hid hpc.2
    obtain ⟨oa, oc, rfl, -, -, -, -⟩ := hcfg.ports
    have HCK := Lib.hid hck
    clear hb hcfg hck hpc y0 y1 y2 y3 y4
    obtain ⟨w2, hw_w2⟩ : ∃ w2, w2 = w1.alloc (.cells #[.slice none 0 0] 72) := ⟨_, rfl⟩
    obtain ⟨pb, hg_pb⟩ : ∃ pb, pb = w1.heap.size := ⟨_, rfl⟩
    have hb_w2 : Below w1.heap.size w1 w2 := by rw [hw_w2]; exact balloc _ _
    have hk_pb : w2.heap[pb]? = some (.cells #[.slice none 0 0] 72 (0, 0)) := by rw [hw_w2, hg_pb]; exact blk_new _ _
    have hs_w2 : w2.heap.size = w1.heap.size + 1 := by rw [hw_w2]; simp
    have HB2 := Lib.hid (bthen HB1.out hb_w2)
    have hA2 := keep_at hA1 hb_w2
    have hplo : w.heap.size ≤ pb := by rw [hg_pb]; exact HB1.out.size
    have HPL := Lib.hid hplo
    have HK0 := Lib.hid (show PortsAt w2 pb w.heap.size w2.heap.size [] from ⟨hplo, by omega, Nat.le_refl _, ⟨_, hk_pb, World.ownsRow_nil _ _ _ _, fun g h => by simp [Value.ownBlock] at h⟩, by simp, by simp, by simp, List.Pairwise.nil⟩)
    have y0 := BlockIs.of hA1 4 _ rfl
    have hgn : ga < w1.heap.size := lt_of_block hA1
    have hpbn : pb < w2.heap.size := by omega
    clear hb_w2 hs_w2 hk_pb hA1 hA2 hplo
    go_wp2_with fail
    rw [← hw_w2, ← hg_pb]
    clear hw_w2 hg_pb y0 hgn
    go_loopw [17] (fun i wr => ∃ (k : Nat) (Ls : List Ln), k ≤ c.ports.length ∧ i = .int .i64 k ∧ Hid (Ls.map (·.p) = c.ports.take k) ∧ Hid (∀ l ∈ Ls, l.q = []) ∧ Hid (PortsAt wr pb w.heap.size wr.heap.size Ls) ∧ Hid (Below w.heap.size w wr)) (fun i _ => c.ports.length - (intOf i).toNat)
    case atStart => exact ⟨0, [], by omega, rfl, Lib.hid rfl, Lib.hid (by simp), HK0, HB2⟩
    case round =>
      obtain ⟨k, Ls, hk, rfl, HLS, HQS, HPA, HBR⟩ := hrel
      by_cases hlt : k < c.ports.length
      · obtain ⟨x, hx⟩ : ∃ x, x = c.ports[k] := ⟨_, rfl⟩
        obtain ⟨ba, off, cc, e, hy⟩ : ∃ b off cap, Value.slice oa c.ports.length oc = .slice (some ⟨b, off, none⟩) c.ports.length cap ∧ PortAt w b (off + k * 4) x := by
          obtain ⟨_, _, e, -, -, -, hq⟩ := HPV.out
          obtain ⟨b, off, hb, hq2⟩ := hq (by intro h; rw [h] at hlt; simp at hlt)
          injection e with e1 _ e3
          subst e1; subst e3
          exact ⟨b, off, oc, by rw [hb], by rw [hx]; exact hq2 k hlt⟩
        injection e with e _ e3
        subst e
        subst e3
        obtain ⟨x0, x1, x2, x3⟩ := hy.ext (Ext.below HBR.out)
        unfold IntAt at x0 x1 x2 x3
        have HPX := Lib.hid (HPC.out x (by rw [hx]; exact List.getElem_mem hlt))
        have HTX := Lib.hid (show c.ports.take (k + 1) = c.ports.take k ++ [x] by rw [List.take_add_one, List.getElem?_eq_getElem hlt, hx]; rfl)
        obtain ⟨w3, hw_w3⟩ : ∃ w3, w3 = wr.alloc (.cells #[.int .i64 x.kind, .int .i64 x.from_, .int .i64 x.to_, .int .i64 x.size] 56) := ⟨_, rfl⟩
        obtain ⟨bx, hg_bx⟩ : ∃ bx, bx = wr.heap.size := ⟨_, rfl⟩
        have hb_w3 : Below wr.heap.size wr w3 := by rw [hw_w3]; exact balloc _ _
        have hk_bx : w3.heap[bx]? = some (.cells #[.int .i64 x.kind, .int .i64 x.from_, .int .i64 x.to_, .int .i64 x.size] 56 (0, 0)) := by rw [hw_w3, hg_bx]; exact blk_new _ _
        have hs_w3 : w3.heap.size = wr.heap.size + 1 := by rw [hw_w3]; simp
        have HX3 := Lib.hid (show PortAt w3 bx 0 x from ⟨BlockIs.of hk_bx 0 _ rfl, BlockIs.of hk_bx 1 _ rfl, BlockIs.of hk_bx 2 _ rfl, BlockIs.of hk_bx 3 _ rfl⟩)
        obtain ⟨r, hr1, hr2, hr3⟩ := HPA.out.row
        have HW3 := Lib.hid (And.intro hb_w3 (And.intro hw_w3 hg_bx))
        have HR3 := Lib.hid (And.intro hr1 (And.intro hr2 hr3))
        have hn8 : Ls.length ≤ 8 := by have h := congrArg List.length HLS.out; simp only [List.length_map, List.length_take] at h; omega
        have HS3 := Lib.hid hs_w3
        clear hx hy hk_bx hb_w3 hs_w3 hr1 hr2 hr3
        go_upto_region 7 with (fail)
        rw [← hw_w3, ← hg_bx]
        clear hw_w3 hg_bx x0 x1 x2 x3
        obtain ⟨z0, z1, z2, z3⟩ := HX3.out
        unfold IntAt at z0 z1 z2 z3
        simp only [Nat.zero_add] at z0 z1 z2 z3
        by_cases hkind : x.kind = 0
        · obtain ⟨wq, hwq⟩ : ∃ wq, wq = w3 := ⟨_, rfl⟩
          have hkk : (x.kind == 0) = true := by simpa using hkind
          have HKI := Lib.hid hkind
          have HB := Lib.hid (show Below w.heap.size w wq by rw [hwq]; exact bthen HBR.out HW3.out.1)
          have HPB := Lib.hid (show wq.heap[pb]? = some (.cells #[r] 72 (0, 0)) by rw [hwq]; exact keep_at HR3.out.1 HW3.out.1)
          have HCS := Lib.hid (show ∀ l ∈ Ls, CarAt wq l.c l.k l.q from fun l hl => by rw [hwq]; exact (HPA.out.cars l hl).keep HW3.out.1)
          obtain ⟨n, hn⟩ : ∃ n, n = Ls.length := ⟨_, rfl⟩
          obtain ⟨xs, hxs⟩ : ∃ xs, xs = Ls.flatMap (fun l => lineCells l.p l.c) := ⟨_, rfl⟩
          have HRW := Lib.hid (show wq.ownsRow w.heap.size 80 5 r n xs by rw [hwq, hn, hxs]; exact Below.kept HR3.out.2.1 HW3.out.1)
          have HBX := Lib.hid (show PortAt wq bx 0 x by rw [hwq]; exact HX3.out)
          obtain ⟨g, hg⟩ : ∃ g, g = wq.heap.size := ⟨_, rfl⟩
          have HG := Lib.hid hg
          have hn9 : n ≤ 8 := by omega
          have HNX := Lib.hid (And.intro hn (And.intro hxs hwq))
          rw [← hwq]
          rw [← hwq] at z0 z1 z2 z3
          obtain ⟨ra, rc, hrr⟩ := own_shape HRW.out
          clear hwq hkind hn hxs hg hrr
          go_wp2_with fail
          refine region_inv0 rfl (by kernel_rfl) (NewInv w wq pb r n xs (lineCells x (.smp g)) Ls (NaV pb g r x) (fun W => SmpAt W g []) 6) (fun vs h0 => ⟨(fun i h => by cases h), below_drew HB.out, (fun _ => below_drew (Below.refl _ _)), (fun _ => rfl), (fun h => by cases h), (fun _ h => by cases h), (fun h => by cases h), (fun _ => HPB.out), (fun h => by cases h), fun l hl => CarAt.heap (HCS.out l hl) rfl⟩) ?_ ?_
          · simp (config := { maxSteps := 4000000 }) only [List.map, putAll, Act.put, InvE, List.setIfInBounds_toArray, List.set_cons_succ, List.set_cons_zero, Nat.reduceAdd]
            refine ⟨?_, ?_, ?_, ?_, ?_, ?_, ?_, ?_, ?_, ?_, ?_, ?_, ?_, ?_, ?_, trivial⟩
            all_goals
              intro L vs W hI hi hn hcl K hK
              rw [if_pos (by simp [Region.wanted])]
            · have HK := Lib.hid (fun v h => hK v W ⟨pv_upd hI.pv h, hI.below, hI.bel, hI.c0, hI.c1, hI.new, hI.res, hI.cell0, hI.cell1, hI.cars⟩)
              clear hK hI hn hcl hi
              go_simp
              exact HK.out _ rfl
            · have HK := Lib.hid (fun v h => hK v W ⟨pv_upd hI.pv h, hI.below, hI.bel, hI.c0, hI.c1, hI.new, hI.res, hI.cell0, hI.cell1, hI.cars⟩)
              clear hK hI hn hcl hi
              go_simp
              exact HK.out _ rfl
            · have r1 : vs 1 = .pointer (some ⟨pb, 0, none⟩) := hI.pv 1 (hn 1 rfl)
              simp only [r1] at hK ⊢
              have HK := Lib.hid (fun v h => hK v W ⟨pv_upd hI.pv h, hI.below, hI.bel, hI.c0, hI.c1, hI.new, hI.res, hI.cell0, hI.cell1, hI.cars⟩)
              clear hK hI hn hcl hi
              go_simp
              exact HK.out _ rfl
            · have r2 : vs 2 = .pointer (some ⟨pb, 0, none⟩) := hI.pv 2 (hn 2 rfl)
              simp only [r2] at hK ⊢
              have HK := Lib.hid (fun v h => hK v W ⟨pv_upd hI.pv h, hI.below, hI.bel, hI.c0, hI.c1, hI.new, hI.res, hI.cell0, hI.cell1, hI.cars⟩)
              clear hK hI hn hcl hi
              go_simp
              exact HK.out _ rfl
            · have r3 : vs 3 = .pointer (some ⟨pb, 0, none⟩) := hI.pv 3 (hn 3 rfl)
              have h14n : L 14 = false := by
                cases h : L 14
                · rfl
                · exact absurd (hcl 11 _ rfl (hcl 14 _ rfl h 11 rfl) 4 rfl) (Bool.eq_false_iff.1 hi)
              have y0 := BlockIs.of (hI.cell0 h14n) 0 _ rfl
              simp only [r3] at hK ⊢
              have HK := Lib.hid (fun v h => hK v W ⟨pv_upd hI.pv h, hI.below, hI.bel, hI.c0, hI.c1, hI.new, hI.res, hI.cell0, hI.cell1, hI.cars⟩)
              clear hK hI hn hcl hi h14n
              go_simp
              exact HK.out _ rfl
            · have h11n : L 11 = false := by
                cases h : L 11
                · rfl
                · exact absurd (hcl 9 _ rfl (hcl 10 _ rfl (hcl 11 _ rfl h 10 rfl) 9 rfl) 5 rfl) (Bool.eq_false_iff.1 hi)
              have hz := HBX.out.ext (Ext.below (hI.bel h11n))
              obtain ⟨z0, z1, z2, z3⟩ := hz
              unfold IntAt at z0 z1 z2 z3
              simp only [Nat.zero_add] at z0 z1 z2 z3
              have HK := Lib.hid (fun v h => hK v W ⟨pv_upd hI.pv h, hI.below, hI.bel, hI.c0, hI.c1, hI.new, hI.res, hI.cell0, hI.cell1, hI.cars⟩)
              clear hK hI hn hcl hi h11n
              go_simp
              exact HK.out _ rfl
            · have h10n : L 10 = false := by
                cases h : L 10
                · rfl
                · exact absurd (hcl 7 _ rfl (hcl 8 _ rfl (hcl 9 _ rfl (hcl 10 _ rfl h 9 rfl) 8 rfl) 7 rfl) 6 rfl) (Bool.eq_false_iff.1 hi)
              have h11n : L 11 = false := by
                cases h : L 11
                · rfl
                · exact absurd (hcl 7 _ rfl (hcl 8 _ rfl (hcl 9 _ rfl (hcl 10 _ rfl (hcl 11 _ rfl h 10 rfl) 9 rfl) 8 rfl) 7 rfl) 6 rfl) (Bool.eq_false_iff.1 hi)
              have h14n : L 14 = false := by
                cases h : L 14
                · rfl
                · exact absurd (hcl 7 _ rfl (hcl 8 _ rfl (hcl 9 _ rfl (hcl 10 _ rfl (hcl 11 _ rfl (hcl 14 _ rfl h 11 rfl) 10 rfl) 9 rfl) 8 rfl) 7 rfl) 6 rfl) (Bool.eq_false_iff.1 hi)
              have HK := Lib.hid hK
              have HI := Lib.hid hI
              have HF := Lib.hid (And.intro hi (And.intro h10n (And.intro h11n h14n)))
              clear hK hI hn hcl hi h10n h11n h14n
              go_simp
              go_at_call 28
              refine (smpNew_any W).mono ?_
              rintro e w' ⟨rfl, hs, hb⟩
              have hsz : W.heap.size = g := by rw [HI.out.c0 HF.out.1]; exact HG.out.symm
              rw [hsz] at hs ⊢
              exact HK.out _ _ ⟨pv_upd HI.out.pv rfl, bthen HI.out.below hb, (fun _ => bthen (HI.out.bel HF.out.2.2.1) hb), (fun q => absurd q (by simp [updB])), (fun _ => hs), (fun _ q => absurd q (Bool.eq_false_iff.1 HF.out.2.1)), (fun q => absurd q (Bool.eq_false_iff.1 HF.out.2.2.1)), (fun q => keep_at (HI.out.cell0 q) hb), (fun q => absurd q (Bool.eq_false_iff.1 HF.out.2.2.2)), fun l hl => (HI.out.cars l hl).keep hb⟩
            · have r6 : vs 6 = .pointer (some ⟨g, 0, none⟩) := hI.pv 6 (hn 6 rfl)
              simp only [r6] at hK ⊢
              have HK := Lib.hid (fun v h => hK v W ⟨pv_upd hI.pv h, hI.below, hI.bel, hI.c0, hI.c1, hI.new, hI.res, hI.cell0, hI.cell1, hI.cars⟩)
              clear hK hI hn hcl hi
              go_simp
              exact HK.out _ rfl
            · have r7 : vs 7 = .agg #[.pointer (some ⟨g, 0, none⟩)] := hI.pv 7 (hn 7 rfl)
              simp only [r7] at hK ⊢
              have HK := Lib.hid (fun v h => hK v W ⟨pv_upd hI.pv h, hI.below, hI.bel, hI.c0, hI.c1, hI.new, hI.res, hI.cell0, hI.cell1, hI.cars⟩)
              clear hK hI hn hcl hi
              go_simp
              exact HK.out _ rfl
            · have r5 : vs 5 = .agg #[.int .i64 x.kind, .int .i64 x.from_, .int .i64 x.to_, .int .i64 x.size] := hI.pv 5 (hn 5 rfl)
              have r8 : vs 8 = .iface 76 (.agg #[.pointer (some ⟨g, 0, none⟩)]) := hI.pv 8 (hn 8 rfl)
              simp only [r5, r8] at hK ⊢
              have HK := Lib.hid (fun v h => hK v W ⟨pv_upd hI.pv h, hI.below, hI.bel, hI.c0, hI.c1, hI.new, hI.res, hI.cell0, hI.cell1, hI.cars⟩)
              clear hK hI hn hcl hi
              go_simp
              exact HK.out _ rfl
            · have r9 : vs 9 = .agg #[.int .i64 x.kind, .int .i64 x.from_, .int .i64 x.to_, .int .i64 x.size, .iface 76 (.agg #[.pointer (some ⟨g, 0, none⟩)])] := hI.pv 9 (hn 9 rfl)
              have h11n : L 11 = false := by
                cases h : L 11
                · rfl
                · exact absurd (hcl 11 _ rfl h 10 rfl) (Bool.eq_false_iff.1 hi)
              have h14n : L 14 = false := by
                cases h : L 14
                · rfl
                · exact absurd (hcl 11 _ rfl (hcl 14 _ rfl h 11 rfl) 10 rfl) (Bool.eq_false_iff.1 hi)
              simp only [r9] at hK ⊢
              have HK := Lib.hid hK
              have HI := Lib.hid hI
              have HF := Lib.hid (And.intro h11n h14n)
              have HC := Lib.hid (hn 9 rfl)
              have H6 := Lib.hid (show L 6 = true from hcl 7 _ rfl (hcl 8 _ rfl (hcl 9 _ rfl (hn 9 rfl) 8 rfl) 7 rfl) 6 rfl)
              clear hK hI hn hcl hi h11n h14n
              go_simp
              have hb := balloc W (.cells (lineCells x (.smp g)).toArray 80)
              exact HK.out _ _ ⟨pv_upd HI.out.pv trivial, bthen HI.out.below hb, (fun _ => bthen (HI.out.bel HF.out.1) hb), (fun q => by have := H6.out; rw [show updB L 10 6 = L 6 from rfl, this] at q; cases q), (fun q => SmpAt.keep (HI.out.c1 q) hb), (fun _ _ => ⟨W.heap.size, rfl, blk_new _ _⟩), (fun q => absurd q (Bool.eq_false_iff.1 HF.out.1)), (fun q => keep_at (HI.out.cell0 q) hb), (fun q => absurd q (Bool.eq_false_iff.1 HF.out.2)), fun l hl => (HI.out.cars l hl).keep hb⟩
            · have r4 : vs 4 = r := hI.pv 4 (hn 4 rfl)
              have h14n : L 14 = false := by
                cases h : L 14
                · rfl
                · exact absurd (hcl 14 _ rfl h 11 rfl) (Bool.eq_false_iff.1 hi)
              have hA : L 11 = false := hi
              have h10 : L 10 = true := hn 10 rfl
              obtain ⟨g9, e19, hg⟩ := hI.new hA h10
              have hr : W.ownsRow w.heap.size 80 5 r n xs := Below.kept HRW.out (hI.bel hA)
              have hsrc : Src W (vs 10) 1 (lineCells x (.smp g)) := .inr ⟨⟨g9, 0, none⟩, 1, e19, fun j u hu => by rw [addr_add]; have h := BlockIs.of hg j u (by simpa using hu); simpa using h⟩
              refine wp_onto _ (.tmp 28) (.tmp 34) 70 rfl w.heap.size 80 _ 5 48 Try.underlying70 infoLine rfl (by decide) r n _ (hI.pv 4 (hn 4 rfl)) hr 1 (lineCells x (.smp g)) hsrc rfl (line_one x _) (by simp only [maxLen]; omega) (by omega) hI.below.size ?_
              intro v' w' ho hg2
              have hty : ∀ g, r.ownBlock = some g → Typed W g 80 := fun g h => own_typed hr h
              refine hK v' w' ⟨pv_upd hI.pv trivial, hI.below.grown hg2 hI.below.size (fun q hq => (hr.lt q hq).1), (fun q => absurd q (by simp [updB])), (fun q => by have h6 : L 6 = true := hcl 7 _ rfl (hcl 8 _ rfl (hcl 9 _ rfl (hcl 10 _ rfl h10 9 rfl) 8 rfl) 7 rfl) 6 rfl; rw [show updB L 11 6 = L 6 from rfl, h6] at q; cases q), (fun q => SmpAt.apart (hI.c1 q) hg2 hty (by decide)), (fun q => absurd q (by simp [updB])), (fun _ => ho), (fun q => typed_apart (hI.cell0 q) hg2 hty (by decide)), (fun q => absurd q (Bool.eq_false_iff.1 h14n)), fun l hl => (hI.cars l hl).apart hg2 hty (by decide) (by decide) (by decide)⟩
            · have r0 : vs 0 = .pointer (some ⟨pb, 0, none⟩) := hI.pv 0 (hn 0 rfl)
              simp only [r0] at hK ⊢
              have HK := Lib.hid (fun v h => hK v W ⟨pv_upd hI.pv h, hI.below, hI.bel, hI.c0, hI.c1, hI.new, hI.res, hI.cell0, hI.cell1, hI.cars⟩)
              clear hK hI hn hcl hi
              go_simp
              exact HK.out _ rfl
            · have r12 : vs 12 = .pointer (some ⟨pb, 0, none⟩) := hI.pv 12 (hn 12 rfl)
              simp only [r12] at hK ⊢
              have HK := Lib.hid (fun v h => hK v W ⟨pv_upd hI.pv h, hI.below, hI.bel, hI.c0, hI.c1, hI.new, hI.res, hI.cell0, hI.cell1, hI.cars⟩)
              clear hK hI hn hcl hi
              go_simp
              exact HK.out _ rfl
            · have r13 : vs 13 = .pointer (some ⟨pb, 0, none⟩) := hI.pv 13 (hn 13 rfl)
              have h11 : L 11 = true := hn 11 rfl
              have h14n : L 14 = false := hi
              have hc := hI.cell0 h14n
              have hx := hI.res h11
              have y0 := BlockIs.of hc 0 _ rfl
              have f0 := thaw hc 0
              obtain ⟨ra, rc, e11⟩ := own_shape hx
              have hgs := set_grown W pb 0 (vs 11)
              have hty : ∀ g, some pb = some g → Typed W g 72 := fun g h => by injection h with h; rw [← h]; exact ⟨_, hc⟩
              have HN := Lib.hid (show NewInv w wq pb r n xs (lineCells x (.smp g)) Ls (NaV pb g r x) (fun W => SmpAt W g []) 6 (updB L 14) (upd vs 14 undef) (W.setCell ⟨pb, 0, none⟩ (vs 11)) from ⟨pv_upd hI.pv trivial, hI.below.grown hgs hI.below.size (fun q hq => by injection hq with hq; rw [← hq]; exact HPL.out), (fun q => by rw [show updB L 14 11 = L 11 from rfl, h11] at q; cases q), (fun q => by have h6 : L 6 = true := hcl 7 _ rfl (hcl 8 _ rfl (hcl 9 _ rfl (hcl 10 _ rfl (hcl 11 _ rfl h11 10 rfl) 9 rfl) 8 rfl) 7 rfl) 6 rfl; rw [show updB L 14 6 = L 6 from rfl, h6] at q; cases q), (fun q => SmpAt.apart (hI.c1 q) hgs hty (by decide)), (fun q => by rw [show updB L 14 11 = L 11 from rfl, h11] at q; cases q), (fun _ => own_apart hx hgs hty (by decide)), (fun q => absurd q (by simp [updB])), (fun _ => blk_set hc 0 (vs 11)), fun l hl => (hI.cars l hl).apart hgs hty (by decide) (by decide) (by decide)⟩)
              rw [e11] at HN
              simp only [r13, e11] at hK ⊢
              have HK := Lib.hid hK
              clear hK hI hn hcl hi hc hx hgs hty h11 h14n e11
              go_simp
              exact HK.out _ _ HN.out
          · intro vs W hI
            simp only [List.map, putAll, Act.put, List.setIfInBounds_toArray, List.set_cons_succ, List.set_cons_zero, Nat.reduceAdd]
            have hres := hI.res (by simp)
            have hcell := hI.cell1 (by simp)
            have hc1 := hI.c1 (by simp)
            have r0 : vs 0 = .pointer (some ⟨pb, 0, none⟩) := hI.pv 0 (by simp)
            have r1 : vs 1 = .pointer (some ⟨pb, 0, none⟩) := hI.pv 1 (by simp)
            have r2 : vs 2 = .pointer (some ⟨pb, 0, none⟩) := hI.pv 2 (by simp)
            have r3 : vs 3 = .pointer (some ⟨pb, 0, none⟩) := hI.pv 3 (by simp)
            have r4 : vs 4 = r := hI.pv 4 (by simp)
            have r5 : vs 5 = .agg #[.int .i64 x.kind, .int .i64 x.from_, .int .i64 x.to_, .int .i64 x.size] := hI.pv 5 (by simp)
            have r6 : vs 6 = .pointer (some ⟨g, 0, none⟩) := hI.pv 6 (by simp)
            have r7 : vs 7 = .agg #[.pointer (some ⟨g, 0, none⟩)] := hI.pv 7 (by simp)
            have r8 : vs 8 = .iface 76 (.agg #[.pointer (some ⟨g, 0, none⟩)]) := hI.pv 8 (by simp)
            have r9 : vs 9 = .agg #[.int .i64 x.kind, .int .i64 x.from_, .int .i64 x.to_, .int .i64 x.size, .iface 76 (.agg #[.pointer (some ⟨g, 0, none⟩)])] := hI.pv 9 (by simp)
            have r12 : vs 12 = .pointer (some ⟨pb, 0, none⟩) := hI.pv 12 (by simp)
            have r13 : vs 13 = .pointer (some ⟨pb, 0, none⟩) := hI.pv 13 (by simp)
            have HBW := Lib.hid hI.below
            have HCW := Lib.hid hI.cars
            obtain ⟨ra, rc, e11⟩ := own_shape hres
            have HRS := Lib.hid (And.intro hres (And.intro hcell hc1))
            simp only [r0, r1, r2, r3, r4, r5, r6, r7, r8, r9, r12, r13]
            clear hI hres hcell hc1 r0 r1 r2 r3 r4 r5 r6 r7 r8 r9 r12 r13
            go_wp2_with fail
            refine ⟨⟨k + 1, Ls ++ [⟨x, .smp g, []⟩], by omega, rfl, Lib.hid (by rw [List.map_append, HLS.out, HTX.out]; rfl), Lib.hid (fun l hl => ?_), Lib.hid ?_, HBW⟩, by simp [intOf]; omega⟩
            · rcases List.mem_append.1 hl with hl | hl
              · exact HQS.out l hl
              · rw [List.mem_singleton.1 hl]
            · have hgW : wr.heap.size < g ∧ g < W.heap.size := ⟨by rw [HG.out, HNX.out.2.2]; have := HS3.out; omega, lt_of_block HRS.out.2.2.2⟩
              have hrow := HRS.out.1
              rw [HNX.out.2.1] at hrow
              exact PortsAt.add HPL.out HPA.out.pb2 (by omega) HNX.out.1 HRS.out.2.1 hrow HCW.out HPA.out.blks HPA.out.kind HPA.out.ne HRS.out.2.2 (fun b hb => by have : b = g := (by simpa [Car.all] using hb); omega) HBR.out.size (.inl ⟨HKI.out, g, rfl⟩)
        · have hkind1 : x.kind = 1 := by have := HPX.out; omega
          have hkk : (x.kind == 0) = false := by simpa using hkind
          have HKI := Lib.hid hkind1
          have HQN := queNew_any x.size.toNat w3 (by have := HPX.out; omega) (by have := HPX.out; omega)
          rw [show ((x.size.toNat : Nat) : Int) = x.size by have := HPX.out; omega] at HQN
          have HQH := Lib.hid HQN
          clear HQN hkind hkind1
          go_wp2_with fail
          refine HQH.out.mono ?_
          rintro e wq ⟨g, rb, rfl, hrb, hqb, hgb, hring, hb⟩
          have hb3 := bthen HW3.out.1 hb
          have HGB := Lib.hid (show wr.heap.size ≤ g ∧ wr.heap.size ≤ rb by have := HS3.out; omega)
          have HB := Lib.hid (bthen HBR.out hb3)
          have HPB := Lib.hid (show wq.heap[pb]? = some (.cells #[r] 72 (0, 0)) from keep_at HR3.out.1 hb3)
          obtain ⟨n, hn⟩ : ∃ n, n = Ls.length := ⟨_, rfl⟩
          obtain ⟨xs, hxs⟩ : ∃ xs, xs = Ls.flatMap (fun l => lineCells l.p l.c) := ⟨_, rfl⟩
          have HRW := Lib.hid (show wq.ownsRow w.heap.size 80 5 r n xs by rw [hn, hxs]; exact Below.kept HR3.out.2.1 hb3)
          have HBX := Lib.hid (HX3.out.ext (Ext.below hb))
          have hn9 : n ≤ 8 := by omega
          have HNX := Lib.hid (And.intro hn (And.intro hxs trivial))
          have HCS := Lib.hid (show ∀ l ∈ Ls ++ [⟨x, .que g rb, []⟩], CarAt wq l.c l.k l.q from fun l hl => by
            rcases List.mem_append.1 hl with hl | hl
            · exact (HPA.out.cars l hl).keep hb3
            · rw [List.mem_singleton.1 hl]; exact ⟨hqb, hring⟩)
          clear hn hxs hrb hqb hgb hring hb hb3 z0 z1 z2 z3
          obtain ⟨z0, z1, z2, z3⟩ := HBX.out
          unfold IntAt at z0 z1 z2 z3
          simp only [Nat.zero_add] at z0 z1 z2 z3
          go_wp2_with fail
          refine region_inv0 rfl (by kernel_rfl) (NewInv w wq pb r n xs (lineCells x (.que g rb)) (Ls ++ [⟨x, .que g rb, []⟩]) (NbV pb g r x) (fun _ => True) 10) (fun vs h0 => ⟨(fun i h => by cases h), below_drew HB.out, (fun _ => below_drew (Below.refl _ _)), (fun _ => rfl), (fun h => by cases h), (fun _ h => by cases h), (fun h => by cases h), (fun _ => HPB.out), (fun h => by cases h), fun l hl => CarAt.heap (HCS.out l hl) rfl⟩) ?_ ?_
          · simp (config := { maxSteps := 4000000 }) only [List.map, putAll, Act.put, InvE, List.setIfInBounds_toArray, List.set_cons_succ, List.set_cons_zero, Nat.reduceAdd]
            refine ⟨?_, ?_, ?_, ?_, ?_, ?_, ?_, ?_, ?_, ?_, ?_, ?_, ?_, ?_, ?_, trivial⟩
            all_goals
              intro L vs W hI hi hn hcl K hK
              rw [if_pos (by simp [Region.wanted])]
            · have HK := Lib.hid (fun v h => hK v W ⟨pv_upd hI.pv h, hI.below, hI.bel, hI.c0, hI.c1, hI.new, hI.res, hI.cell0, hI.cell1, hI.cars⟩)
              clear hK hI hn hcl hi
              go_simp
              exact HK.out _ rfl
            · have HK := Lib.hid (fun v h => hK v W ⟨pv_upd hI.pv h, hI.below, hI.bel, hI.c0, hI.c1, hI.new, hI.res, hI.cell0, hI.cell1, hI.cars⟩)
              clear hK hI hn hcl hi
              go_simp
              exact HK.out _ rfl
            · have r1 : vs 1 = .pointer (some ⟨pb, 0, none⟩) := hI.pv 1 (hn 1 rfl)
              simp only [r1] at hK ⊢
              have HK := Lib.hid (fun v h => hK v W ⟨pv_upd hI.pv h, hI.below, hI.bel, hI.c0, hI.c1, hI.new, hI.res, hI.cell0, hI.cell1, hI.cars⟩)
              clear hK hI hn hcl hi
              go_simp
              exact HK.out _ rfl
            · have r2 : vs 2 = .pointer (some ⟨pb, 0, none⟩) := hI.pv 2 (hn 2 rfl)
              simp only [r2] at hK ⊢
              have HK := Lib.hid (fun v h => hK v W ⟨pv_upd hI.pv h, hI.below, hI.bel, hI.c0, hI.c1, hI.new, hI.res, hI.cell0, hI.cell1, hI.cars⟩)
              clear hK hI hn hcl hi
              go_simp
              exact HK.out _ rfl
            · have r3 : vs 3 = .pointer (some ⟨pb, 0, none⟩) := hI.pv 3 (hn 3 rfl)
              have h14n : L 14 = false := by
                cases h : L 14
                · rfl
                · exact absurd (hcl 11 _ rfl (hcl 14 _ rfl h 11 rfl) 4 rfl) (Bool.eq_false_iff.1 hi)
              have y0 := BlockIs.of (hI.cell0 h14n) 0 _ rfl
              simp only [r3] at hK ⊢
              have HK := Lib.hid (fun v h => hK v W ⟨pv_upd hI.pv h, hI.below, hI.bel, hI.c0, hI.c1, hI.new, hI.res, hI.cell0, hI.cell1, hI.cars⟩)
              clear hK hI hn hcl hi h14n
              go_simp
              exact HK.out _ rfl
            · have h11n : L 11 = false := by
                cases h : L 11
                · rfl
                · exact absurd (hcl 9 _ rfl (hcl 10 _ rfl (hcl 11 _ rfl h 10 rfl) 9 rfl) 5 rfl) (Bool.eq_false_iff.1 hi)
              have hz := HBX.out.ext (Ext.below (hI.bel h11n))
              obtain ⟨z0, z1, z2, z3⟩ := hz
              unfold IntAt at z0 z1 z2 z3
              simp only [Nat.zero_add] at z0 z1 z2 z3
              have HK := Lib.hid (fun v h => hK v W ⟨pv_upd hI.pv h, hI.below, hI.bel, hI.c0, hI.c1, hI.new, hI.res, hI.cell0, hI.cell1, hI.cars⟩)
              clear hK hI hn hcl hi h11n
              go_simp
              exact HK.out _ rfl
            · have HK := Lib.hid (fun v h => hK v W ⟨pv_upd hI.pv h, hI.below, hI.bel, hI.c0, hI.c1, hI.new, hI.res, hI.cell0, hI.cell1, hI.cars⟩)
              clear hK hI hn hcl hi
              go_simp
              exact HK.out _ rfl
            · have r6 : vs 6 = .pointer (some ⟨g, 0, none⟩) := hI.pv 6 (hn 6 rfl)
              simp only [r6] at hK ⊢
              have HK := Lib.hid (fun v h => hK v W ⟨pv_upd hI.pv h, hI.below, hI.bel, hI.c0, hI.c1, hI.new, hI.res, hI.cell0, hI.cell1, hI.cars⟩)
              clear hK hI hn hcl hi
              go_simp
              exact HK.out _ rfl
            · have r7 : vs 7 = .agg #[.pointer (some ⟨g, 0, none⟩)] := hI.pv 7 (hn 7 rfl)
              simp only [r7] at hK ⊢
              have HK := Lib.hid (fun v h => hK v W ⟨pv_upd hI.pv h, hI.below, hI.bel, hI.c0, hI.c1, hI.new, hI.res, hI.cell0, hI.cell1, hI.cars⟩)
              clear hK hI hn hcl hi
              go_simp
              exact HK.out _ rfl
            · have r5 : vs 5 = .agg #[.int .i64 x.kind, .int .i64 x.from_, .int .i64 x.to_, .int .i64 x.size] := hI.pv 5 (hn 5 rfl)
              have r8 : vs 8 = .iface 85 (.agg #[.pointer (some ⟨g, 0, none⟩)]) := hI.pv 8 (hn 8 rfl)
              simp only [r5, r8] at hK ⊢
              have HK := Lib.hid (fun v h => hK v W ⟨pv_upd hI.pv h, hI.below, hI.bel, hI.c0, hI.c1, hI.new, hI.res, hI.cell0, hI.cell1, hI.cars⟩)
              clear hK hI hn hcl hi
              go_simp
              exact HK.out _ rfl
            · have r9 : vs 9 = .agg #[.int .i64 x.kind, .int .i64 x.from_, .int .i64 x.to_, .int .i64 x.size, .iface 85 (.agg #[.pointer (some ⟨g, 0, none⟩)])] := hI.pv 9 (hn 9 rfl)
              have h11n : L 11 = false := by
                cases h : L 11
                · rfl
                · exact absurd (hcl 11 _ rfl h 10 rfl) (Bool.eq_false_iff.1 hi)
              have h14n : L 14 = false := by
                cases h : L 14
                · rfl
                · exact absurd (hcl 11 _ rfl (hcl 14 _ rfl h 11 rfl) 10 rfl) (Bool.eq_false_iff.1 hi)
              simp only [r9] at hK ⊢
              have HK := Lib.hid hK
              have HI := Lib.hid hI
              have HF := Lib.hid (And.intro h11n h14n)
              clear hK hI hn hcl hi h11n h14n
              go_simp
              have hb := balloc W (.cells (lineCells x (.que g rb)).toArray 80)
              exact HK.out _ _ ⟨pv_upd HI.out.pv trivial, bthen HI.out.below hb, (fun _ => bthen (HI.out.bel HF.out.1) hb), (fun q => absurd q (by simp [updB])), (fun _ => trivial), (fun _ _ => ⟨W.heap.size, rfl, blk_new _ _⟩), (fun q => absurd q (Bool.eq_false_iff.1 HF.out.1)), (fun q => keep_at (HI.out.cell0 q) hb), (fun q => absurd q (Bool.eq_false_iff.1 HF.out.2)), fun l hl => (HI.out.cars l hl).keep hb⟩
            · have r4 : vs 4 = r := hI.pv 4 (hn 4 rfl)
              have h14n : L 14 = false := by
                cases h : L 14
                · rfl
                · exact absurd (hcl 14 _ rfl h 11 rfl) (Bool.eq_false_iff.1 hi)
              have hA : L 11 = false := hi
              have h10 : L 10 = true := hn 10 rfl
              obtain ⟨g9, e19, hg⟩ := hI.new hA h10
              have hr : W.ownsRow w.heap.size 80 5 r n xs := Below.kept HRW.out (hI.bel hA)
              have hsrc : Src W (vs 10) 1 (lineCells x (.que g rb)) := .inr ⟨⟨g9, 0, none⟩, 1, e19, fun j u hu => by rw [addr_add]; have h := BlockIs.of hg j u (by simpa using hu); simpa using h⟩
              refine wp_onto _ (.tmp 48) (.tmp 54) 70 rfl w.heap.size 80 _ 5 48 Try.underlying70 infoLine rfl (by decide) r n _ (hI.pv 4 (hn 4 rfl)) hr 1 (lineCells x (.que g rb)) hsrc rfl (line_one x _) (by simp only [maxLen]; omega) (by omega) hI.below.size ?_
              intro v' w' ho hg2
              have hty : ∀ g, r.ownBlock = some g → Typed W g 80 := fun g h => own_typed hr h
              refine hK v' w' ⟨pv_upd hI.pv trivial, hI.below.grown hg2 hI.below.size (fun q hq => (hr.lt q hq).1), (fun q => absurd q (by simp [updB])), (fun q => by rw [show updB L 11 10 = L 10 from rfl, h10] at q; cases q), (fun _ => trivial), (fun q => absurd q (by simp [updB])), (fun _ => ho), (fun q => typed_apart (hI.cell0 q) hg2 hty (by decide)), (fun q => absurd q (Bool.eq_false_iff.1 h14n)), fun l hl => (hI.cars l hl).apart hg2 hty (by decide) (by decide) (by decide)⟩
            · have r0 : vs 0 = .pointer (some ⟨pb, 0, none⟩) := hI.pv 0 (hn 0 rfl)
              simp only [r0] at hK ⊢
              have HK := Lib.hid (fun v h => hK v W ⟨pv_upd hI.pv h, hI.below, hI.bel, hI.c0, hI.c1, hI.new, hI.res, hI.cell0, hI.cell1, hI.cars⟩)
              clear hK hI hn hcl hi
              go_simp
              exact HK.out _ rfl
            · have r12 : vs 12 = .pointer (some ⟨pb, 0, none⟩) := hI.pv 12 (hn 12 rfl)
              simp only [r12] at hK ⊢
              have HK := Lib.hid (fun v h => hK v W ⟨pv_upd hI.pv h, hI.below, hI.bel, hI.c0, hI.c1, hI.new, hI.res, hI.cell0, hI.cell1, hI.cars⟩)
              clear hK hI hn hcl hi
              go_simp
              exact HK.out _ rfl
            · have r13 : vs 13 = .pointer (some ⟨pb, 0, none⟩) := hI.pv 13 (hn 13 rfl)
              have h11 : L 11 = true := hn 11 rfl
              have h14n : L 14 = false := hi
              have hc := hI.cell0 h14n
              have hx := hI.res h11
              have y0 := BlockIs.of hc 0 _ rfl
              have f0 := thaw hc 0
              obtain ⟨ra, rc, e11⟩ := own_shape hx
              have hgs := set_grown W pb 0 (vs 11)
              have hty : ∀ g, some pb = some g → Typed W g 72 := fun g h => by injection h with h; rw [← h]; exact ⟨_, hc⟩
              have HN := Lib.hid (show NewInv w wq pb r n xs (lineCells x (.que g rb)) (Ls ++ [⟨x, .que g rb, []⟩]) (NbV pb g r x) (fun _ => True) 10 (updB L 14) (upd vs 14 undef) (W.setCell ⟨pb, 0, none⟩ (vs 11)) from ⟨pv_upd hI.pv trivial, hI.below.grown hgs hI.below.size (fun q hq => by injection hq with hq; rw [← hq]; exact HPL.out), (fun q => by rw [show updB L 14 11 = L 11 from rfl, h11] at q; cases q), (fun q => by have h10 : L 10 = true := hcl 11 _ rfl h11 10 rfl; rw [show updB L 14 10 = L 10 from rfl, h10] at q; cases q), (fun _ => trivial), (fun q => by rw [show updB L 14 11 = L 11 from rfl, h11] at q; cases q), (fun _ => own_apart hx hgs hty (by decide)), (fun q => absurd q (by simp [updB])), (fun _ => blk_set hc 0 (vs 11)), fun l hl => (hI.cars l hl).apart hgs hty (by decide) (by decide) (by decide)⟩)
              rw [e11] at HN
              simp only [r13, e11] at hK ⊢
              have HK := Lib.hid hK
              clear hK hI hn hcl hi hc hx hgs hty h11 h14n e11
              go_simp
              exact HK.out _ _ HN.out
          · intro vs W hI
            simp only [List.map, putAll, Act.put, List.setIfInBounds_toArray, List.set_cons_succ, List.set_cons_zero, Nat.reduceAdd]
            have hres := hI.res (by simp)
            have hcell := hI.cell1 (by simp)
            have hc1 := hI.c1 (by simp)
            have r0 : vs 0 = .pointer (some ⟨pb, 0, none⟩) := hI.pv 0 (by simp)
            have r1 : vs 1 = .pointer (some ⟨pb, 0, none⟩) := hI.pv 1 (by simp)
            have r2 : vs 2 = .pointer (some ⟨pb, 0, none⟩) := hI.pv 2 (by simp)
            have r3 : vs 3 = .pointer (some ⟨pb, 0, none⟩) := hI.pv 3 (by simp)
            have r4 : vs 4 = r := hI.pv 4 (by simp)
            have r5 : vs 5 = .agg #[.int .i64 x.kind, .int .i64 x.from_, .int .i64 x.to_, .int .i64 x.size] := hI.pv 5 (by simp)
            have r6 : vs 6 = .pointer (some ⟨g, 0, none⟩) := hI.pv 6 (by simp)
            have r7 : vs 7 = .agg #[.pointer (some ⟨g, 0, none⟩)] := hI.pv 7 (by simp)
            have r8 : vs 8 = .iface 85 (.agg #[.pointer (some ⟨g, 0, none⟩)]) := hI.pv 8 (by simp)
            have r9 : vs 9 = .agg #[.int .i64 x.kind, .int .i64 x.from_, .int .i64 x.to_, .int .i64 x.size, .iface 85 (.agg #[.pointer (some ⟨g, 0, none⟩)])] := hI.pv 9 (by simp)
            have r12 : vs 12 = .pointer (some ⟨pb, 0, none⟩) := hI.pv 12 (by simp)
            have r13 : vs 13 = .pointer (some ⟨pb, 0, none⟩) := hI.pv 13 (by simp)
            have HBW := Lib.hid hI.below
            have HCW := Lib.hid hI.cars
            obtain ⟨ra, rc, e11⟩ := own_shape hres
            have HRS := Lib.hid (And.intro hres (And.intro hcell hc1))
            simp only [r0, r1, r2, r3, r4, r5, r6, r7, r8, r9, r12, r13]
            clear hI hres hcell hc1 r0 r1 r2 r3 r4 r5 r6 r7 r8 r9 r12 r13
            go_wp2_with fail
            refine ⟨⟨k + 1, Ls ++ [⟨x, .que g rb, []⟩], by omega, rfl, Lib.hid (by rw [List.map_append, HLS.out, HTX.out]; rfl), Lib.hid (fun l hl => ?_), Lib.hid ?_, HBW⟩, by simp [intOf]; omega⟩
            · rcases List.mem_append.1 hl with hl | hl
              · exact HQS.out l hl
              · rw [List.mem_singleton.1 hl]
            · have hgW : wr.heap.size ≤ g ∧ g < W.heap.size ∧ wr.heap.size ≤ rb ∧ rb < W.heap.size := by have h := HCW.out ⟨x, .que g rb, []⟩ (by simp); exact ⟨HGB.out.1, lt_of_block h.1, HGB.out.2, h.2.lt⟩
              have hrow := HRS.out.1
              rw [HNX.out.2.1] at hrow
              exact PortsAt.add HPL.out HPA.out.pb2 (by omega) HNX.out.1 HRS.out.2.1 hrow (fun l hl => HCW.out l (List.mem_append_left _ hl)) HPA.out.blks HPA.out.kind HPA.out.ne (HCW.out ⟨x, .que g rb, []⟩ (by simp)) (fun b hb => by have : b = g ∨ b = rb := (by simpa [Car.all] using hb); omega) HBR.out.size (.inr ⟨HKI.out, g, rb, rfl⟩)
      · obtain rfl : k = c.ports.length := by omega
        rw [List.take_length] at HLS
        go_wp2_with fail
        go_ret2
        exact ⟨fun h => absurd HCK.out h, fun _ => ⟨pb, Ls, rfl, HPA.out, HLS.out, HQS.out⟩, HBR.out⟩
  · have hck' : (checkCfg c != 0) = true := by simpa using hck
    obtain ⟨pe, hpe⟩ : ∃ pe, pe = checkCfg c := ⟨_, rfl⟩
    rw [← hpe] at hck' ⊢
    rintro e w1 ⟨rfl, hb⟩
    have HB1 := Lib.hid (bthen HBA.out hb)
    have HCK := Lib.hid hck
    clear hb hck hpe y0 y1 y2 y3 y4
    go_wp2_with fail
    go_ret2
    exact ⟨fun _ => rfl, fun h => absurd h HCK.out, HB1.out⟩
end Go.Proofs.Ytkjjfidbmkpljaa
