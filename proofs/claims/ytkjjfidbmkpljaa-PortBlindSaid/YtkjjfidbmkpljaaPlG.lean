/- The configuration that the laws try themselves on, block by block: so that a law may write into it. -/
import Derived.Test.YtkjjfidbmkpljaaPlain
set_option linter.unusedVariables false
set_option linter.unusedSimpArgs false
namespace Go.Proofs.Ytkjjfidbmkpljaa
open Go.RowKit

/-- The configuration, with another deadline, another end of the first window, another part of the second. -/
def plainG (d tq p : Int) : Config := ⟨10, 2, [⟨1, [⟨0, 10, d, 2, 4, 1⟩], [⟨1, 7⟩, ⟨9, 0⟩]⟩, ⟨0, [⟨1, 5, 5, 3, 3, 0⟩], []⟩], [⟨0, tq, 0⟩, ⟨6, 9, p⟩], [⟨1, 0, 1, 2⟩]⟩
theorem plainG_cfg : plainG 10 5 1 = plainCfg := rfl
structure PlainAt (W : World) (b : Nat) (d tq p : Int) : Prop where
  h1 : W.heap[b + 1]? = some (.cells #[.int .i64 0, .int .i64 10, .int .i64 d, .int .i64 2, .int .i64 4, .int .i64 1] 110 (0, 0))
  h2 : W.heap[b + 2]? = some (.cells #[.int .i64 1, .int .i64 7, .int .i64 9, .int .i64 0] 112 (0, 0))
  h3 : W.heap[b + 3]? = some (.cells #[.int .i64 1, .int .i64 5, .int .i64 5, .int .i64 3, .int .i64 3, .int .i64 0] 110 (0, 0))
  h4 : W.heap[b + 4]? = some (.cells #[.int .i64 1, .slice (some ⟨b + 1, 0, none⟩) 1 1, .slice (some ⟨b + 2, 0, none⟩) 2 2, .int .i64 0, .slice (some ⟨b + 3, 0, none⟩) 1 1, .slice none 0 0] 66 (0, 0))
  h5 : W.heap[b + 5]? = some (.cells #[.int .i64 0, .int .i64 tq, .int .i64 0, .int .i64 6, .int .i64 9, .int .i64 p] 100 (0, 0))
  h6 : W.heap[b + 6]? = some (.cells #[.int .i64 1, .int .i64 0, .int .i64 1, .int .i64 2] 56 (0, 0))
abbrev plainPs (b : Nat) : Value := .slice (some ⟨b + 4, 0, none⟩) 2 2
abbrev plainWs (b : Nat) : Value := .slice (some ⟨b + 5, 0, none⟩) 2 2
abbrev plainOs (b : Nat) : Value := .slice (some ⟨b + 6, 0, none⟩) 1 1
abbrev plainV (b : Nat) : Value := .agg #[.int .i64 10, .int .i64 2, plainPs b, plainWs b, plainOs b]
theorem PlainAt.keep {W W' : World} {b : Nat} {d tq p : Int} (h : PlainAt W b d tq p) (hb : Below W.heap.size W W') : PlainAt W' b d tq p :=
  ⟨keep_at h.h1 hb, keep_at h.h2 hb, keep_at h.h3 hb, keep_at h.h4 hb, keep_at h.h5 hb, keep_at h.h6 hb⟩
theorem PlainAt.lt {W : World} {b : Nat} {d tq p : Int} (h : PlainAt W b d tq p) : b + 6 < W.heap.size := (Array.getElem?_eq_some_iff.1 h.h6).1
theorem PlainAt.far {W : World} {b : Nat} {d tq p : Int} (h : PlainAt W b d tq p) (q j : Nat) (v : Value) (hq : b + 6 < q ∨ q ≤ b) : PlainAt (W.setCell ⟨q, j, none⟩ v) b d tq p :=
  ⟨set_at v h.h1 (by omega), set_at v h.h2 (by omega), set_at v h.h3 (by omega), set_at v h.h4 (by omega), set_at v h.h5 (by omega), set_at v h.h6 (by omega)⟩
theorem PlainAt.setD {W : World} {b : Nat} {d tq p : Int} (h : PlainAt W b d tq p) (d' : Int) : PlainAt (W.setCell ⟨b + 1, 2, none⟩ (.int .i64 d')) b d' tq p :=
  ⟨blk_set h.h1 _ _, set_at _ h.h2 (by omega), set_at _ h.h3 (by omega), set_at _ h.h4 (by omega), set_at _ h.h5 (by omega), set_at _ h.h6 (by omega)⟩
theorem PlainAt.setTo {W : World} {b : Nat} {d tq p : Int} (h : PlainAt W b d tq p) (t' : Int) : PlainAt (W.setCell ⟨b + 5, 1, none⟩ (.int .i64 t')) b d t' p :=
  ⟨set_at _ h.h1 (by omega), set_at _ h.h2 (by omega), set_at _ h.h3 (by omega), set_at _ h.h4 (by omega), blk_set h.h5 _ _, set_at _ h.h6 (by omega)⟩
theorem PlainAt.setP {W : World} {b : Nat} {d tq p : Int} (h : PlainAt W b d tq p) (p' : Int) : PlainAt (W.setCell ⟨b + 5, 5, none⟩ (.int .i64 p')) b d tq p' :=
  ⟨set_at _ h.h1 (by omega), set_at _ h.h2 (by omega), set_at _ h.h3 (by omega), set_at _ h.h4 (by omega), blk_set h.h5 _ _, set_at _ h.h6 (by omega)⟩
theorem PlainAt.is {W : World} {b : Nat} {d tq p : Int} (h : PlainAt W b d tq p) : CfgIs W (plainPs b) (plainWs b) (plainOs b) (plainG d tq p) := by
  have h1 := BlockIs.of h.h1
  have h2 := BlockIs.of h.h2
  have h3 := BlockIs.of h.h3
  have h4 := BlockIs.of h.h4
  have h5 := BlockIs.of h.h5
  have h6 := BlockIs.of h.h6
  have t1 : TasksV W (.slice (some ⟨b + 1, 0, none⟩) 1 1) [⟨0, 10, d, 2, 4, 1⟩] := slice1 (by decide) (task_of h1 _ rfl rfl rfl rfl rfl rfl)
  have t3 : TasksV W (.slice (some ⟨b + 3, 0, none⟩) 1 1) [⟨1, 5, 5, 3, 3, 0⟩] := slice1 (by decide) (task_of h3 _ rfl rfl rfl rfl rfl rfl)
  have c2 : CodeV W (.slice (some ⟨b + 2, 0, none⟩) 2 2) [⟨1, 7⟩, ⟨9, 0⟩] := slice2 (by decide) (show InstrAt W (b + 2) 0 ⟨1, 7⟩ from ⟨h2 0 _ rfl, h2 1 _ rfl⟩) (show InstrAt W (b + 2) 2 ⟨9, 0⟩ from ⟨h2 2 _ rfl, h2 3 _ rfl⟩)
  have p1 : PartAt W (b + 4) 0 ⟨1, [⟨0, 10, d, 2, 4, 1⟩], [⟨1, 7⟩, ⟨9, 0⟩]⟩ := ⟨h4 0 _ rfl, _, _, h4 1 _ rfl, h4 2 _ rfl, ⟨t1, c2⟩⟩
  have p2 : PartAt W (b + 4) 3 ⟨0, [⟨1, 5, 5, 3, 3, 0⟩], []⟩ := ⟨h4 3 _ rfl, _, _, h4 4 _ rfl, h4 5 _ rfl, ⟨t3, slice0 _ _ _ _⟩⟩
  have w1 : WindowAt W (b + 5) 0 ⟨0, tq, 0⟩ := ⟨h5 0 _ rfl, h5 1 _ rfl, h5 2 _ rfl⟩
  have w2 : WindowAt W (b + 5) 3 ⟨6, 9, p⟩ := ⟨h5 3 _ rfl, h5 4 _ rfl, h5 5 _ rfl⟩
  have o1 : PortAt W (b + 6) 0 ⟨1, 0, 1, 2⟩ := ⟨h6 0 _ rfl, h6 1 _ rfl, h6 2 _ rfl, h6 3 _ rfl⟩
  exact ⟨slice2 (by decide) p1 p2, slice2 (by decide) w1 w2, slice1 (by decide) o1⟩
theorem CfgIs.less {W : World} {pv wv ov : Value} {f q : Int} {ps : List Part} {ws : List Window} {os : List Port} (h : CfgIs W pv wv ov ⟨f, q, ps, ws, os⟩) {wv' : Value} {ws' : List Window} (hw : WindowsV W wv' ws') : CfgIs W pv wv' ov ⟨f, q, ps, ws', os⟩ :=
  ⟨h.parts, hw, h.ports⟩
/-- A box that holds such a configuration, behind some steps. -/
structure St (w W : World) (g b : Nat) (cs : Array Value) (d tq p : Int) : Prop where
  hB : Below w.heap.size w W
  hP : PlainAt W b d tq p
  hG : W.heap[g]? = some (.cells cs 26 (0, 0))
theorem St.step {w W W' : World} {g b : Nat} {cs : Array Value} {d tq p : Int} (h : St w W g b cs d tq p) (hb : Below W.heap.size W W') : St w W' g b cs d tq p :=
  ⟨bthen h.hB hb, h.hP.keep hb, keep_at h.hG hb⟩
theorem St.c {w W : World} {g b : Nat} {d tq p : Int} (h : St w W g b #[.int .i64 10, .int .i64 2, plainPs b, plainWs b, plainOs b] d tq p) : CfgC W g (plainPs b) (plainWs b) (plainOs b) (plainG d tq p) :=
  ⟨BlockIs.of h.hG 0 _ rfl, BlockIs.of h.hG 1 _ rfl, BlockIs.of h.hG 2 _ rfl, BlockIs.of h.hG 3 _ rfl, BlockIs.of h.hG 4 _ rfl, h.hP.is⟩
set_option maxRecDepth 100000 in
set_option maxHeartbeats 1000000 in
theorem plainAt17_any (w : World) :
    Calls Try.prog 24 #[] w fun e w' => ∃ b, e = .returned (plainV b) ∧ w.heap.size ≤ b ∧ PlainAt w' b 10 5 1 ∧ Below w.heap.size w w' := by
  go_enter Try.func24, Try.ntmps24
  go_wp2_with fail
  refine bodyPost_ret (v := .agg #[.int .i64 10, .int .i64 2, .slice (some ⟨w.heap.size + 1 + 1 + 1 + 1, 0, none⟩) 2 2, .slice (some ⟨w.heap.size + 1 + 1 + 1 + 1 + 1, 0, none⟩) 2 2, .slice (some ⟨w.heap.size + 1 + 1 + 1 + 1 + 1 + 1, 0, none⟩) 1 1]) (by simp [results, Try.results24, go_sem]) rfl ⟨w.heap.size, rfl, Nat.le_refl _, ?_, ?_⟩
  · constructor
    all_goals simp only [heap_push, Array.getElem?_push, Array.size_push]; simp
  · repeat (first | exact Below.refl _ _ | refine Below.alloc ?_ (by simp <;> omega) _)
end Go.Proofs.Ytkjjfidbmkpljaa
