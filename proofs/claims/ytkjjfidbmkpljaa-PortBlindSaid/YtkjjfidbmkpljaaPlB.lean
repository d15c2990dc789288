/- The configuration that the laws try themselves on, its blocks by their contents. -/
import Derived.Test.YtkjjfidbmkpljaaPlG
set_option linter.unusedVariables false
set_option linter.unusedSimpArgs false
namespace Go.Proofs.Ytkjjfidbmkpljaa
open Go.RowKit

structure PlainB (W : World) (b : Nat) (t1 : Task) (i1 i2 : Instr) (t3 : Task) (c4 : Array Value) (x1 x2 : Window) (o : Port) : Prop where
  h1 : W.heap[b + 1]? = some (.cells #[.int .i64 t1.kind, .int .i64 t1.period, .int .i64 t1.deadline, .int .i64 t1.clow, .int .i64 t1.chigh, .int .i64 t1.prio] 110 (0, 0))
  h2 : W.heap[b + 2]? = some (.cells #[.int .i64 i1.op, .int .i64 i1.arg, .int .i64 i2.op, .int .i64 i2.arg] 112 (0, 0))
  h3 : W.heap[b + 3]? = some (.cells #[.int .i64 t3.kind, .int .i64 t3.period, .int .i64 t3.deadline, .int .i64 t3.clow, .int .i64 t3.chigh, .int .i64 t3.prio] 110 (0, 0))
  h4 : W.heap[b + 4]? = some (.cells c4 66 (0, 0))
  h5 : W.heap[b + 5]? = some (.cells #[.int .i64 x1.from_, .int .i64 x1.to_, .int .i64 x1.part, .int .i64 x2.from_, .int .i64 x2.to_, .int .i64 x2.part] 100 (0, 0))
  h6 : W.heap[b + 6]? = some (.cells #[.int .i64 o.kind, .int .i64 o.from_, .int .i64 o.to_, .int .i64 o.size] 56 (0, 0))
abbrev plT1 : Task := ⟨0, 10, 10, 2, 4, 1⟩
abbrev plT3 : Task := ⟨1, 5, 5, 3, 3, 0⟩
abbrev plI1 : Instr := ⟨1, 7⟩
abbrev plI2 : Instr := ⟨9, 0⟩
abbrev plW1 : Window := ⟨0, 5, 0⟩
abbrev plW2 : Window := ⟨6, 9, 1⟩
abbrev plO : Port := ⟨1, 0, 1, 2⟩
abbrev plC4 (b : Nat) : Array Value := #[.int .i64 1, .slice (some ⟨b + 1, 0, none⟩) 1 1, .slice (some ⟨b + 2, 0, none⟩) 2 2, .int .i64 0, .slice (some ⟨b + 3, 0, none⟩) 1 1, .slice none 0 0]
theorem PlainB.of {W : World} {b : Nat} (h : PlainAt W b 10 5 1) : PlainB W b plT1 plI1 plI2 plT3 (plC4 b) plW1 plW2 plO := ⟨h.h1, h.h2, h.h3, h.h4, h.h5, h.h6⟩
section
variable {W W' : World} {b : Nat} {t1 : Task} {i1 i2 : Instr} {t3 : Task} {c4 : Array Value} {x1 x2 : Window} {o : Port}
theorem PlainB.keep (h : PlainB W b t1 i1 i2 t3 c4 x1 x2 o) (hb : Below W.heap.size W W') : PlainB W' b t1 i1 i2 t3 c4 x1 x2 o :=
  ⟨keep_at h.h1 hb, keep_at h.h2 hb, keep_at h.h3 hb, keep_at h.h4 hb, keep_at h.h5 hb, keep_at h.h6 hb⟩
theorem PlainB.lt (h : PlainB W b t1 i1 i2 t3 c4 x1 x2 o) : b + 6 < W.heap.size := (Array.getElem?_eq_some_iff.1 h.h6).1
theorem PlainB.far (h : PlainB W b t1 i1 i2 t3 c4 x1 x2 o) (q j : Nat) (v : Value) (hq : b + 6 < q ∨ q ≤ b) : PlainB (W.setCell ⟨q, j, none⟩ v) b t1 i1 i2 t3 c4 x1 x2 o :=
  ⟨set_at v h.h1 (by omega), set_at v h.h2 (by omega), set_at v h.h3 (by omega), set_at v h.h4 (by omega), set_at v h.h5 (by omega), set_at v h.h6 (by omega)⟩
theorem PlainB.set4 (h : PlainB W b t1 i1 i2 t3 c4 x1 x2 o) (j : Nat) (v : Value) : PlainB (W.setCell ⟨b + 4, j, none⟩ v) b t1 i1 i2 t3 (c4.setIfInBounds j v) x1 x2 o :=
  ⟨set_at _ h.h1 (by omega), set_at _ h.h2 (by omega), set_at _ h.h3 (by omega), blk_set h.h4 _ _, set_at _ h.h5 (by omega), set_at _ h.h6 (by omega)⟩
theorem PlainB.tasks1 (h : PlainB W b t1 i1 i2 t3 c4 x1 x2 o) : TasksV W (.slice (some ⟨b + 1, 0, none⟩) 1 1) [t1] := slice1 (by decide) (task_of (BlockIs.of h.h1) _ rfl rfl rfl rfl rfl rfl)
theorem PlainB.tasks3 (h : PlainB W b t1 i1 i2 t3 c4 x1 x2 o) : TasksV W (.slice (some ⟨b + 3, 0, none⟩) 1 1) [t3] := slice1 (by decide) (task_of (BlockIs.of h.h3) _ rfl rfl rfl rfl rfl rfl)
theorem PlainB.code (h : PlainB W b t1 i1 i2 t3 c4 x1 x2 o) : CodeV W (.slice (some ⟨b + 2, 0, none⟩) 2 2) [i1, i2] :=
  slice2 (by decide) (show InstrAt W (b + 2) 0 i1 from ⟨BlockIs.of h.h2 0 _ rfl, BlockIs.of h.h2 1 _ rfl⟩) (show InstrAt W (b + 2) 2 i2 from ⟨BlockIs.of h.h2 2 _ rfl, BlockIs.of h.h2 3 _ rfl⟩)
theorem PlainB.win1 (h : PlainB W b t1 i1 i2 t3 c4 x1 x2 o) : WindowAt W (b + 5) 0 x1 := ⟨BlockIs.of h.h5 0 _ rfl, BlockIs.of h.h5 1 _ rfl, BlockIs.of h.h5 2 _ rfl⟩
theorem PlainB.win2 (h : PlainB W b t1 i1 i2 t3 c4 x1 x2 o) : WindowAt W (b + 5) 3 x2 := ⟨BlockIs.of h.h5 3 _ rfl, BlockIs.of h.h5 4 _ rfl, BlockIs.of h.h5 5 _ rfl⟩
theorem PlainB.wins (h : PlainB W b t1 i1 i2 t3 c4 x1 x2 o) : WindowsV W (plainWs b) [x1, x2] := slice2 (by decide) h.win1 h.win2
theorem PlainB.ports (h : PlainB W b t1 i1 i2 t3 c4 x1 x2 o) : PortsV W (plainOs b) [o] :=
  slice1 (by decide) (show PortAt W (b + 6) 0 o from ⟨BlockIs.of h.h6 0 _ rfl, BlockIs.of h.h6 1 _ rfl, BlockIs.of h.h6 2 _ rfl, BlockIs.of h.h6 3 _ rfl⟩)
theorem PlainB.parts {l1 l2 : Int} {u1 v1 u2 v2 : Value} {ts1 ts2 : List Task} {cs1 cs2 : List Instr} (h : PlainB W b t1 i1 i2 t3 #[.int .i64 l1, u1, v1, .int .i64 l2, u2, v2] x1 x2 o) (h1 : TasksV W u1 ts1) (h2 : CodeV W v1 cs1) (h3 : TasksV W u2 ts2) (h4 : CodeV W v2 cs2) : PartsV W (plainPs b) [⟨l1, ts1, cs1⟩, ⟨l2, ts2, cs2⟩] :=
  slice2 (by decide) (show PartAt W (b + 4) 0 ⟨l1, ts1, cs1⟩ from ⟨BlockIs.of h.h4 0 _ rfl, u1, v1, BlockIs.of h.h4 1 _ rfl, BlockIs.of h.h4 2 _ rfl, ⟨h1, h2⟩⟩) (show PartAt W (b + 4) 3 ⟨l2, ts2, cs2⟩ from ⟨BlockIs.of h.h4 3 _ rfl, u2, v2, BlockIs.of h.h4 4 _ rfl, BlockIs.of h.h4 5 _ rfl, ⟨h3, h4⟩⟩)
theorem PlainB.is (h : PlainB W b t1 i1 i2 t3 (plC4 b) x1 x2 o) (f q : Int) : CfgIs W (plainPs b) (plainWs b) (plainOs b) ⟨f, q, [⟨1, [t1], [i1, i2]⟩, ⟨0, [t3], []⟩], [x1, x2], [o]⟩ :=
  ⟨h.parts h.tasks1 h.code h.tasks3 (slice0 _ _ _ _), h.wins, h.ports⟩
end
end Go.Proofs.Ytkjjfidbmkpljaa
