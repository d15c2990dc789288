/- The configuration that the laws try themselves on. -/
import Derived.Test.YtkjjfidbmkpljaaFrm1
import Derived.Test.YtkjjfidbmkpljaaOwn
set_option linter.unusedVariables false
set_option linter.unusedSimpArgs false
namespace Go.Proofs.Ytkjjfidbmkpljaa
open Go.RowKit

def plainCfg : Config := ⟨10, 2, [⟨1, [⟨0, 10, 10, 2, 4, 1⟩], [⟨1, 7⟩, ⟨9, 0⟩]⟩, ⟨0, [⟨1, 5, 5, 3, 3, 0⟩], []⟩], [⟨0, 5, 0⟩, ⟨6, 9, 1⟩], [⟨1, 0, 1, 2⟩]⟩
theorem task_of {W : World} {b o : Nat} {cs : Array Value} (h : BlockIs W b cs) (x : Task) (h0 : cs[o]? = some (.int .i64 x.kind)) (h1 : cs[o + 1]? = some (.int .i64 x.period)) (h2 : cs[o + 2]? = some (.int .i64 x.deadline)) (h3 : cs[o + 3]? = some (.int .i64 x.clow)) (h4 : cs[o + 4]? = some (.int .i64 x.chigh)) (h5 : cs[o + 5]? = some (.int .i64 x.prio)) : TaskAt W b o x :=
  ⟨h _ _ h0, h _ _ h1, h _ _ h2, h _ _ h3, h _ _ h4, h _ _ h5⟩
theorem plain_at {W : World} {b1 b2 b3 b4 b5 b6 : Nat}
    (h1 : BlockIs W b1 #[.int .i64 0, .int .i64 10, .int .i64 10, .int .i64 2, .int .i64 4, .int .i64 1])
    (h2 : BlockIs W b2 #[.int .i64 1, .int .i64 7, .int .i64 9, .int .i64 0])
    (h3 : BlockIs W b3 #[.int .i64 1, .int .i64 5, .int .i64 5, .int .i64 3, .int .i64 3, .int .i64 0])
    (h4 : BlockIs W b4 #[.int .i64 1, .slice (some ⟨b1, 0, none⟩) 1 1, .slice (some ⟨b2, 0, none⟩) 2 2, .int .i64 0, .slice (some ⟨b3, 0, none⟩) 1 1, .slice none 0 0])
    (h5 : BlockIs W b5 #[.int .i64 0, .int .i64 5, .int .i64 0, .int .i64 6, .int .i64 9, .int .i64 1])
    (h6 : BlockIs W b6 #[.int .i64 1, .int .i64 0, .int .i64 1, .int .i64 2]) :
    CfgV W (.agg #[.int .i64 10, .int .i64 2, .slice (some ⟨b4, 0, none⟩) 2 2, .slice (some ⟨b5, 0, none⟩) 2 2, .slice (some ⟨b6, 0, none⟩) 1 1]) plainCfg := by
  have t1 : TasksV W (.slice (some ⟨b1, 0, none⟩) 1 1) [⟨0, 10, 10, 2, 4, 1⟩] := slice1 (by decide) (task_of h1 _ rfl rfl rfl rfl rfl rfl)
  have t3 : TasksV W (.slice (some ⟨b3, 0, none⟩) 1 1) [⟨1, 5, 5, 3, 3, 0⟩] := slice1 (by decide) (task_of h3 _ rfl rfl rfl rfl rfl rfl)
  have c2 : CodeV W (.slice (some ⟨b2, 0, none⟩) 2 2) [⟨1, 7⟩, ⟨9, 0⟩] := slice2 (by decide) (show InstrAt W b2 0 ⟨1, 7⟩ from ⟨h2 0 _ rfl, h2 1 _ rfl⟩) (show InstrAt W b2 2 ⟨9, 0⟩ from ⟨h2 2 _ rfl, h2 3 _ rfl⟩)
  have p1 : PartAt W b4 0 ⟨1, [⟨0, 10, 10, 2, 4, 1⟩], [⟨1, 7⟩, ⟨9, 0⟩]⟩ := ⟨h4 0 _ rfl, _, _, h4 1 _ rfl, h4 2 _ rfl, ⟨t1, c2⟩⟩
  have p2 : PartAt W b4 3 ⟨0, [⟨1, 5, 5, 3, 3, 0⟩], []⟩ := ⟨h4 3 _ rfl, _, _, h4 4 _ rfl, h4 5 _ rfl, ⟨t3, slice0 _ _ _ _⟩⟩
  have w1 : WindowAt W b5 0 ⟨0, 5, 0⟩ := ⟨h5 0 _ rfl, h5 1 _ rfl, h5 2 _ rfl⟩
  have w2 : WindowAt W b5 3 ⟨6, 9, 1⟩ := ⟨h5 3 _ rfl, h5 4 _ rfl, h5 5 _ rfl⟩
  have o1 : PortAt W b6 0 ⟨1, 0, 1, 2⟩ := ⟨h6 0 _ rfl, h6 1 _ rfl, h6 2 _ rfl, h6 3 _ rfl⟩
  exact ⟨_, _, _, rfl, ⟨slice2 (by decide) p1 p2, slice2 (by decide) w1 w2, slice1 (by decide) o1⟩⟩
set_option maxRecDepth 100000 in
set_option maxHeartbeats 1000000 in
theorem plain17_any (w : World) :
    Calls Try.prog 24 #[] w fun e w' => ∃ v, e = .returned v ∧ CfgV w' v plainCfg ∧ Below w.heap.size w w' := by
  go_enter Try.func24, Try.ntmps24
  go_wp2_with fail
  refine bodyPost_ret (v := .agg #[.int .i64 10, .int .i64 2, .slice (some ⟨w.heap.size + 1 + 1 + 1 + 1, 0, none⟩) 2 2, .slice (some ⟨w.heap.size + 1 + 1 + 1 + 1 + 1, 0, none⟩) 2 2, .slice (some ⟨w.heap.size + 1 + 1 + 1 + 1 + 1 + 1, 0, none⟩) 1 1]) (by simp [results, Try.results24, go_sem]) rfl ⟨_, rfl, ?_, ?_⟩
  · refine plain_at (b1 := w.heap.size + 1) (b2 := w.heap.size + 1 + 1) (b3 := w.heap.size + 1 + 1 + 1) (BlockIs.of (t := 110) (fr := (0, 0)) ?_) (BlockIs.of (t := 112) (fr := (0, 0)) ?_) (BlockIs.of (t := 110) (fr := (0, 0)) ?_) (BlockIs.of (t := 66) (fr := (0, 0)) ?_) (BlockIs.of (t := 100) (fr := (0, 0)) ?_) (BlockIs.of (t := 56) (fr := (0, 0)) ?_)
    all_goals simp only [heap_push, Array.getElem?_push, Array.size_push]; simp
  · repeat (first | exact Below.refl _ _ | refine Below.alloc ?_ (by simp <;> omega) _)
end Go.Proofs.Ytkjjfidbmkpljaa
