/- CopyTasks, CopyInstrs: a slice's copy. -/
import Derived.Test.YthnecccakeminaaCopy1
set_option linter.unusedVariables false
set_option linter.unusedSimpArgs false
namespace Go.Proofs.Ythnecccakeminaa
open Go.RowKit

theorem infoTask : (Try.prog.info? 44).map (fun i => (i.zero, i.size, i.bytes)) = some (some (.agg #[.int .i64 0, .int .i64 0, .int .i64 0, .int .i64 0, .int .i64 0, .int .i64 0]), 6, 48) := by kernel_rfl
theorem infoInstr : (Try.prog.info? 64).map (fun i => (i.zero, i.size, i.bytes)) = some (some (.agg #[.int .i64 0, .int .i64 0]), 2, 16) := by kernel_rfl
set_option maxRecDepth 100000 in
set_option maxHeartbeats 400000 in
theorem CopyTasks_any (v : Value) (xs : List Task) (w0 w : World) (h0 : Ext w0 w) (hv : TasksV w0 v xs) :
    Calls Try.prog 20 #[v] w fun e w' => ∃ v' news, e = .returned v' ∧ w'.ownsRow w.heap.size 44 6 v' xs.length news ∧ (∀ W b u, Ext w0 W → W.ownsRow b 44 6 u xs.length news → TasksV W u xs) ∧ Below w.heap.size w w' := by
  obtain ⟨news, hl, h1, hsrc, hback⟩ := SliceAt.cells told_task (by decide) hv
  obtain ⟨a, cap, rfl, g2, g3, g4, g5⟩ := hv
  have hsrc2 : Src (w.alloc (.cells #[] 44)) (.slice a xs.length cap) xs.length news := by
    rcases hsrc with h | ⟨ad, c, e, hc⟩
    · exact .inl h
    · exact .inr ⟨ad, c, e, fun j u hu => Ext.alloc _ _ _ _ (h0 _ _ (hc j u hu))⟩
  have HB := Lib.hid hback
  have HS := Lib.hid hsrc2
  clear hback hsrc hsrc2 g5 h0
  go_enter Try.func20, Try.ntmps20
  go_wp2_with (at_builtin; refine wpList_onto _ rfl (.tmp 3) (.tmp 4) 39 rfl w.heap.size 44 _ 6 48 Try.underlying39 infoTask rfl (by decide) _ 0 [] rfl (own_lit w _ _) xs.length news HS.out hl h1 (by simp only [maxLen] at g4 ⊢; omega) (by omega) (by simp) ?_)
  intro v' w' hown hg
  have hown' := Lib.hid hown
  have hb : Below w.heap.size w w' := (balloc w (.cells #[] 44)).grown hg (by simp) (fun k hk => by simp [Value.ownBlock] at hk; omega)
  have HBW := Lib.hid hb
  clear hown hg hb
  go_wp2_with fail
  refine bodyPost_ret (v := v') (by simp [results, Try.results20, go_sem]) rfl ⟨_, news, rfl, by simpa using hown'.out, fun W b u hW hu => HB.out W b _ u hW hu, HBW.out⟩
set_option maxRecDepth 100000 in
set_option maxHeartbeats 400000 in
theorem CopyInstrs_any (v : Value) (xs : List Instr) (w0 w : World) (h0 : Ext w0 w) (hv : CodeV w0 v xs) :
    Calls Try.prog 21 #[v] w fun e w' => ∃ v' news, e = .returned v' ∧ w'.ownsRow w.heap.size 64 2 v' xs.length news ∧ (∀ W b u, Ext w0 W → W.ownsRow b 64 2 u xs.length news → CodeV W u xs) ∧ Below w.heap.size w w' := by
  obtain ⟨news, hl, h1, hsrc, hback⟩ := SliceAt.cells told_instr (by decide) hv
  obtain ⟨a, cap, rfl, g2, g3, g4, g5⟩ := hv
  have hsrc2 : Src (w.alloc (.cells #[] 64)) (.slice a xs.length cap) xs.length news := by
    rcases hsrc with h | ⟨ad, c, e, hc⟩
    · exact .inl h
    · exact .inr ⟨ad, c, e, fun j u hu => Ext.alloc _ _ _ _ (h0 _ _ (hc j u hu))⟩
  have HB := Lib.hid hback
  have HS := Lib.hid hsrc2
  clear hback hsrc hsrc2 g5 h0
  go_enter Try.func21, Try.ntmps21
  go_wp2_with (at_builtin; refine wpList_onto _ rfl (.tmp 3) (.tmp 4) 40 rfl w.heap.size 64 _ 2 16 Try.underlying40 infoInstr rfl (by decide) _ 0 [] rfl (own_lit w _ _) xs.length news HS.out hl h1 (by simp only [maxLen] at g4 ⊢; omega) (by omega) (by simp) ?_)
  intro v' w' hown hg
  have hown' := Lib.hid hown
  have hb : Below w.heap.size w w' := (balloc w (.cells #[] 64)).grown hg (by simp) (fun k hk => by simp [Value.ownBlock] at hk; omega)
  have HBW := Lib.hid hb
  clear hown hg hb
  go_wp2_with fail
  refine bodyPost_ret (v := v') (by simp [results, Try.results21, go_sem]) rfl ⟨_, news, rfl, by simpa using hown'.out, fun W b u hW hu => HB.out W b _ u hW hu, HBW.out⟩
end Go.Proofs.Ythnecccakeminaa
