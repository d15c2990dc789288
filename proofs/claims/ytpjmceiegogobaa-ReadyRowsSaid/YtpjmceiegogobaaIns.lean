/- slices.Insert at jobs: onto a row of the call's own. -/
import Derived.Test.YtpjmceiegogobaaJobD
import Derived.Lib.Overlaps
import Derived.OwnWalk
import Derived.Lib.AppendZerosOnto
import Derived.Laws.IdiomCopy
set_option linter.unusedVariables false
set_option linter.unusedSimpArgs false
namespace Go.Proofs.Ytpjmceiegogobaa
open Go.RowKit

section
variable {P : Program}
theorem run_copyK (w : World) (dT sT ty elem : TypeId) (K b o dLen dCap : Nat) (a : Addr) (sLen sCap n : Nat) (cs : List Value)
    (hu : P.underlying dT = some (.slice elem)) (hs : (P.info? elem).map (·.size) = some K) (hm : Nat.min sLen dLen = n) (hn : cs.length = n * K)
    (hsrc : ∀ j v, cs[j]? = some v → w.cell? (a.add j) = some v) (hc : ∀ j, j < cs.length → (w.cell? ⟨b, o + j, none⟩).isSome = true) (hf : ∀ j, j < cs.length → w.frozen? ⟨b, o + j, none⟩ = false) (h1 : ∀ v ∈ cs, v.oneCell' = true) :
    (Builtin.copy_ #[dT, sT] ty #[.slice (some ⟨b, o, none⟩) dLen dCap, .slice (some a) sLen sCap]).run P w = .ok (goInt n) (w.setCells b o cs) := by
  have hl := run_loadCells_list (P := P) w a cs hsrc
  have hst := run_storeCells_cells (P := P) b o cs 0 w (by simpa using hc) (by simpa using hf) h1
  cases hq : P.info? elem with
  | none => simp [hq] at hs
  | some i =>
    have hi : i.size = K := by simpa [hq] using hs
    simp [Builtin.copy_, run_underlying hu, Builtin.lenOf, Builtin.firstCells, sizeOf, typeInfo, hq, hi, hm, ← hn, hl, hst]
theorem wpList_copyK (w : World) {ops : Array Oper} {rest : List Oper} {o : Oper} {a : Act} {Q : Exit → Act → World → Prop} (hgd : o.guard = none) (d s : Operand) (t t' : TypeId)
    (ho : o.op = .call { callee := .builtin .copy, args := #[d, s], argTypes := #[t, t'] }) (v u : Value) (hd : a.eval d = v) (hs : a.eval s = u) {v' : Value} {w' : World}
    (hr : (Builtin.copy_ #[t, t'] o.type #[v, u]).run P w = .ok v' w') (h : wpList P ops Q rest (a.put o.dst v') w') : wpList P ops Q (o :: rest) a w :=
  wpList_plain hgd fun _ hK => by
    unfold Oper.wp execOp
    simp only [ho, resolve, invoke, builtin, Sem.run_bind, Sem.run_pure, Result.andThen_ok, List.map_toArray, List.map_cons, List.map_nil, hd, hs, hr]
    exact hK _ _ h
end
theorem below_setCellsB {g : Nat} : ∀ (vs : List Value) (o : Nat) (w : World), w.grownBy (w.setCells g o vs) (some g)
  | [], _, w => World.grownBy.refl w _
  | v :: r, o, w => by
    rw [World.setCells]
    exact grown_trans (set_grown w g o v) (below_setCellsB r (o + 1) _)
/-- A block's cells, some of them written over. -/
theorem blk_cells {g : Nat} {t : TypeId} : ∀ (vs : List Value) (o : Nat) {W : World} {cur : List Value}, W.heap[g]? = some (.cells cur.toArray t (0, 0)) → o + vs.length ≤ cur.length →
    (W.setCells g o vs).heap[g]? = some (.cells (cur.take o ++ vs ++ cur.drop (o + vs.length)).toArray t (0, 0))
  | [], o, W, cur, h, _ => by simpa [World.setCells] using h
  | v :: r, o, W, cur, h, hl => by
    rw [World.setCells]
    have h1 := blk_set h o v
    rw [List.setIfInBounds_toArray] at h1
    have hlen : o < cur.length := by simp at hl; omega
    have h2 := blk_cells r (o + 1) h1 (by simp at hl ⊢; omega)
    rw [h2]
    congr 3
    rw [List.take_set, List.drop_set]
    rw [if_pos (by omega)]
    rw [List.set_eq_take_append_cons_drop]
    simp only [List.length_take, List.length_cons]
    rw [if_pos (by omega)]
    rw [List.take_take, Nat.min_eq_left (by omega)]
    rw [List.drop_take, show o + 1 - (o + 1) = 0 by omega]
    simp [Nat.add_assoc, Nat.add_comm 1]
theorem flat_take {α : Type} (f : α → List Value) (k : Nat) (hl : ∀ x, (f x).length = k) : ∀ (xs : List α) (i : Nat), (xs.flatMap f).take (i * k) = (xs.take i).flatMap f
  | [], i => by simp
  | x :: r, 0 => by simp
  | x :: r, i + 1 => by
    rw [List.flatMap_cons, List.take_append, List.take_succ_cons, List.flatMap_cons, hl, Nat.succ_mul]
    rw [show i * k + k - k = i * k by omega, flat_take f k hl r i, List.take_of_length_le (by rw [hl]; omega)]
theorem flat_drop {α : Type} (f : α → List Value) (k : Nat) (hl : ∀ x, (f x).length = k) : ∀ (xs : List α) (i : Nat), (xs.flatMap f).drop (i * k) = (xs.drop i).flatMap f
  | [], i => by simp
  | x :: r, 0 => by simp
  | x :: r, i + 1 => by
    rw [List.flatMap_cons, List.drop_append, List.drop_succ_cons, hl, Nat.succ_mul]
    rw [show i * k + k - k = i * k by omega, flat_drop f k hl r i, List.drop_eq_nil_of_le (by rw [hl]; omega), List.nil_append]
theorem shift_list {cur P T X : List Value} {p q r : Nat} (hP : P.length = p) (hc : cur.take (p + r) = P ++ T) (hl : p + q + r ≤ cur.length) :
    (cur.take (p + q) ++ T ++ cur.drop (p + q + r)).take p ++ X ++ (cur.take (p + q) ++ T ++ cur.drop (p + q + r)).drop (p + q) = P ++ X ++ (T ++ cur.drop (p + q + r)) := by
  have h1 : (cur.take (p + q)).length = p + q := by rw [List.length_take]; omega
  have h2 : cur.take p = P := by
    calc cur.take p = (cur.take (p + r)).take p := by rw [List.take_take, Nat.min_eq_left (Nat.le_add_right p r)]
      _ = (P ++ T).take p := by rw [hc]
      _ = P := by rw [← hP, List.take_left]
  have h3 : (cur.take (p + q) ++ T ++ cur.drop (p + q + r)).take p = P := by
    rw [List.append_assoc, List.take_append_of_le_length (by rw [h1]; omega), List.take_take, Nat.min_eq_left (Nat.le_add_right p q), h2]
  have h4 : (cur.take (p + q) ++ T ++ cur.drop (p + q + r)).drop (p + q) = T ++ cur.drop (p + q + r) := by
    rw [List.append_assoc]
    have := List.drop_left (l₁ := cur.take (p + q)) (l₂ := T ++ cur.drop (p + q + r))
    rwa [h1] at this
  rw [h3, h4]
theorem jobRow_ins {W : World} {B g n cap i : Nat} {es : List Job} {x : Job} {cur L1 L2 : List Value} (hn : n = es.length) (hi : i < n) (hc : n + 1 ≤ cap) (hm : cap ≤ maxLen) (hcl : cur.length = cap * 7) (hct : cur.take (n * 7) = es.flatMap jobCells) (hB : B ≤ g)
    (hg2 : W.heap[g]? = some (.cells L2.toArray 24 (0, 0))) (hL1 : L1 = cur.take ((i + 1) * 7) ++ (es.flatMap jobCells).drop (i * 7) ++ cur.drop ((i + 1) * 7 + ((es.flatMap jobCells).drop (i * 7)).length)) (hL2 : L2 = L1.take (i * 7) ++ jobCells x ++ L1.drop (i * 7 + (jobCells x).length)) :
    JobRow W B (.slice (some ⟨g, 0, none⟩) (n + 1) cap) (es.take i ++ [x] ++ es.drop i) := by
  have hCl : (es.flatMap jobCells).length = n * 7 := by rw [flat_len jobCells 7 flatJob.len, hn]
  have hTl : ((es.flatMap jobCells).drop (i * 7)).length = (n - i) * 7 := by rw [List.length_drop, hCl]; omega
  have hPl : ((es.flatMap jobCells).take (i * 7)).length = i * 7 := by rw [List.length_take, hCl]; omega
  have hlen : (es.take i ++ [x] ++ es.drop i).length = n + 1 := by simp; omega
  have hq : (jobCells x).length = 7 := rfl
  rw [hq, hL1, Nat.succ_mul, shift_list (P := (es.flatMap jobCells).take (i * 7)) (X := jobCells x) hPl (by rw [List.take_append_drop, hTl, ← hct]; congr 1; omega) (by rw [hcl, hTl]; omega)] at hL2
  have hL2l : L2.length = cap * 7 := by rw [hL2]; simp only [List.length_append, hPl, hq, hTl, List.length_drop, hcl]; omega
  unfold JobRow
  rw [hlen]
  refine ⟨by rw [flat_len jobCells 7 flatJob.len, hlen], .inr ⟨g, cap, L2.toArray, rfl, hB, hg2, hc, hm, by simpa using hL2l, ?_⟩⟩
  show L2.take ((n + 1) * 7) = _
  rw [List.flatMap_append, List.flatMap_append, List.flatMap_singleton, ← flat_take jobCells 7 flatJob.len, ← flat_drop jobCells 7 flatJob.len, hL2, ← List.append_assoc]
  rw [List.take_append_of_le_length (by simp only [List.length_append, hPl, hq, hTl]; omega), List.take_of_length_le (by simp only [List.length_append, hPl, hq, hTl]; omega)]
theorem jobRow_grow {W : World} {B N n G i : Nat} {es : List Job} {x : Job} {D R1 R2 : List Value} (hn : n = es.length) (hi : i < n) (hc : n + 1 ≤ G) (hm : G ≤ maxLen) (hR1l : R1.length = G * 7) (hR1 : R1 = (es.flatMap jobCells).take (i * 7) ++ jobCells x ++ D) (hB : B ≤ N)
    (hN2 : W.heap[N]? = some (.cells R2.toArray 24 (0, 0))) (hR2 : R2 = R1.take ((i + 1) * 7) ++ (es.flatMap jobCells).drop (i * 7) ++ R1.drop ((i + 1) * 7 + ((es.flatMap jobCells).drop (i * 7)).length)) :
    JobRow W B (.slice (some ⟨N, 0, none⟩) (n + 1) G) (es.take i ++ [x] ++ es.drop i) := by
  have hCl : (es.flatMap jobCells).length = n * 7 := by rw [flat_len jobCells 7 flatJob.len, hn]
  have hTl : ((es.flatMap jobCells).drop (i * 7)).length = (n - i) * 7 := by rw [List.length_drop, hCl]; omega
  have hPl : ((es.flatMap jobCells).take (i * 7)).length = i * 7 := by rw [List.length_take, hCl]; omega
  have hlen : (es.take i ++ [x] ++ es.drop i).length = n + 1 := by simp; omega
  have hq : (jobCells x).length = 7 := rfl
  have h1 : R1.take ((i + 1) * 7) = (es.flatMap jobCells).take (i * 7) ++ jobCells x := by
    have := List.take_left (l₁ := (es.flatMap jobCells).take (i * 7) ++ jobCells x) (l₂ := D)
    rw [← hR1, List.length_append, hPl, hq, ← Nat.succ_mul] at this
    exact this
  rw [h1] at hR2
  have hL2l : R2.length = G * 7 := by rw [hR2]; simp only [List.length_append, hPl, hq, hTl, List.length_drop, hR1l]; omega
  unfold JobRow
  rw [hlen]
  refine ⟨by rw [flat_len jobCells 7 flatJob.len, hlen], .inr ⟨N, G, R2.toArray, rfl, hB, hN2, hc, hm, by simpa using hL2l, ?_⟩⟩
  show R2.take ((n + 1) * 7) = _
  rw [List.flatMap_append, List.flatMap_append, List.flatMap_singleton, ← flat_take jobCells 7 flatJob.len, ← flat_drop jobCells 7 flatJob.len, hR2]
  rw [List.take_append_of_le_length (by simp only [List.length_append, hPl, hq, hTl]; omega), List.take_of_length_le (by simp only [List.length_append, hPl, hq, hTl]; omega)]
theorem sizeJob (w : World) : (Go.sizeOf 24).run Try.prog w = .ok 7 w := by
  obtain ⟨i0, hi0, hz0, hzs, hzb⟩ := info_parts infoJob
  simp [sizeOf, typeInfo, hi0, hzs]
theorem sizJob : (Try.prog.info? 24).map (·.size) = some 7 := by kernel_rfl
set_option maxRecDepth 100000 in
set_option maxHeartbeats 1000000 in
theorem ins_shift (B g n cap i vb : Nat) (es : List Job) (x : Job) (cur : List Value) (w : World) (hg : w.heap[g]? = some (.cells cur.toArray 24 (0, 0))) (hv : w.heap[vb]? = some (.cells (jobCells x).toArray 24 (0, 0))) (hne : vb ≠ g)
    (hn : n = es.length) (hi : i < n) (hc : n + 1 ≤ cap) (hm : cap ≤ maxLen) (hcl : cur.length = cap * 7) (hct : cur.take (n * 7) = es.flatMap jobCells) (hB : B ≤ g) (hBw : B ≤ w.heap.size) :
    Calls Try.prog 27 #[.slice (some ⟨g, 0, none⟩) n cap, .int .i64 i, .slice (some ⟨vb, 0, none⟩) 1 1] w fun e w' => ∃ v', e = .returned v' ∧ JobRow w' B v' (es.take i ++ [x] ++ es.drop i) ∧ Below B w w' := by
  have hov : ∀ lb cb, (callFunc 35 #[.slice (some ⟨vb, 0, none⟩) 1 1, .slice (some ⟨g, (i + 1) * 7, none⟩) lb cb]).run Try.prog w = .ok (.value (.bool false)) w := fun lb cb => by
    rw [run_callFunc_extern Try.func35 (by kernel_rfl) (by kernel_rfl) (by kernel_rfl) (e := Extern.SlicesOverlaps.overlaps #[22, 22] #[4]) (by kernel_rfl),
      Lib.run_overlaps_apart w 22 4 24 Try.underlying22 7 sizeJob ⟨vb, 0, none⟩ ⟨g, (i + 1) * 7, none⟩ 1 1 lb cb hne 24 24 7 (cap * 7) (by simp [World.shape?, hv, jobCells]) (by simp [World.shape?, hg, hcl]) (by omega) (thaw hv 0) (thaw hv 7)]
    rfl
  have htn : ((i : Int) + 1).toNat = i + 1 := by omega
  have hz2 : ¬ ((i : Int) = (n : Int)) := by omega
  have hw1 : IntKind.i64.wrap ((i : Int) + 1) = (i : Int) + 1 := by rw [IntKind.wrap_i64]; unfold maxLen at hm; omega
  have hb1 : (0 : Int) ≤ (i : Int) + 1 := by omega
  have hb2 : ¬ (cap = i + 1) := by omega
  have hb3 : (i : Int) ≤ (n : Int) + 1 := by omega
  have hb4 : ¬ (cap = i) := by omega
  have hin : i ≤ n := by omega
  have hmm : cap ≤ 9223372036854775807 := by unfold maxLen at hm; omega
  have HH := Lib.hid (And.intro hg (And.intro hv (And.intro hcl (And.intro hct hn))))
  clear hg hv hcl hct hn hm
  go_enter Try.func27, Try.ntmps27
  go_wp2_with (simp only [hov])
  refine region_tail 8 (by kernel_rfl) (by kernel_rfl) ?_
  intro wy hy hby
  obtain ⟨hg, hv, hcl, hct, hn⟩ := HH.out
  have hg' : wy.heap[g]? = some (.cells cur.toArray 24 (0, 0)) := by rw [hy]; exact hg
  have hv' : wy.heap[vb]? = some (.cells (jobCells x).toArray 24 (0, 0)) := by rw [hy]; exact hv
  have hCl : (es.flatMap jobCells).length = n * 7 := by rw [flat_len jobCells 7 flatJob.len, hn]
  have hTl : ((es.flatMap jobCells).drop (i * 7)).length = (n - i) * 7 := by rw [List.length_drop, hCl]; omega
  obtain ⟨W1, hW1⟩ : ∃ W1, W1 = wy.setCells g ((i + 1) * 7) ((es.flatMap jobCells).drop (i * 7)) := ⟨_, rfl⟩
  obtain ⟨W2, hW2⟩ : ∃ W2, W2 = W1.setCells g (i * 7) (jobCells x) := ⟨_, rfl⟩
  have hat : ∀ j u, cur[j]? = some u → wy.cell? ⟨g, j, none⟩ = some u := fun j u h => BlockIs.of hg' j u (by simpa using h)
  obtain ⟨L1, hL1⟩ : ∃ L1, L1 = cur.take ((i + 1) * 7) ++ (es.flatMap jobCells).drop (i * 7) ++ cur.drop ((i + 1) * 7 + ((es.flatMap jobCells).drop (i * 7)).length) := ⟨_, rfl⟩
  have hl1 : L1.length = cap * 7 := by rw [hL1]; simp only [List.length_append, List.length_take, List.length_drop, hcl, hCl]; omega
  have hg1 : W1.heap[g]? = some (.cells L1.toArray 24 (0, 0)) := by rw [hW1, hL1]; exact blk_cells _ _ hg' (by rw [hTl, hcl]; omega)
  have hv1 : W1.heap[vb]? = some (.cells (jobCells x).toArray 24 (0, 0)) := by
    rw [hW1]
    have hb := below_setCellsB (g := g) ((es.flatMap jobCells).drop (i * 7)) ((i + 1) * 7) wy
    rw [hb.block vb (Array.getElem?_eq_some_iff.1 hv').1 (by intro h; injection h with h; exact hne h)]
    exact hv'
  obtain ⟨L2, hL2⟩ : ∃ L2, L2 = L1.take (i * 7) ++ jobCells x ++ L1.drop (i * 7 + (jobCells x).length) := ⟨_, rfl⟩
  have hg2 : W2.heap[g]? = some (.cells L2.toArray 24 (0, 0)) := by rw [hW2, hL2]; exact blk_cells (jobCells x) (i * 7) hg1 (by rw [flatJob.len, hl1]; omega)
  have hcA : ∀ ty dl dc sl sc, Nat.min sl dl = n - i → (Builtin.copy_ #[22, 22] ty #[.slice (some ⟨g, (i + 1) * 7, none⟩) dl dc, .slice (some ⟨g, i * 7, none⟩) sl sc]).run Try.prog wy = .ok (goInt (n - i : Nat)) W1 := fun ty dl dc sl sc hm => by
    rw [hW1]
    refine run_copyK wy _ _ ty 24 7 g ((i + 1) * 7) dl dc ⟨g, i * 7, none⟩ sl sc (n - i) _ Try.underlying22 sizJob hm hTl ?_ ?_ (fun j hj => thaw hg' _) (fun u hu => flat_one flatJob es u (List.mem_of_mem_drop hu))
    · intro j u hj
      rw [addr_add]
      refine hat _ u ?_
      rw [List.getElem?_drop, ← hct, List.getElem?_take] at hj
      split at hj
      · exact hj
      · cases hj
    · intro j hj
      rw [hTl] at hj
      rw [hat _ _ (List.getElem?_eq_getElem (show (i + 1) * 7 + j < cur.length by rw [hcl]; omega))]
      rfl
  have hcB : ∀ ty dl dc, Nat.min 1 dl = 1 → (Builtin.copy_ #[22, 22] ty #[.slice (some ⟨g, i * 7, none⟩) dl dc, .slice (some ⟨vb, 0, none⟩) 1 1]).run Try.prog W1 = .ok (goInt (1 : Nat)) W2 := fun ty dl dc hm => by
    rw [hW2]
    refine run_copyK W1 _ _ ty 24 7 g (i * 7) dl dc ⟨vb, 0, none⟩ 1 1 1 (jobCells x) Try.underlying22 sizJob hm rfl ?_ ?_ (fun j hj => thaw hg1 _) (flatJob.one x)
    · intro j u hj
      rw [addr_add]
      exact BlockIs.of hv1 _ u (by simpa using hj)
    · intro j hj
      have hj' : j < 7 := hj
      rw [BlockIs.of hg1 _ _ (show L1.toArray[i * 7 + j]? = some _ by rw [List.getElem?_toArray]; exact List.getElem?_eq_getElem (show i * 7 + j < L1.length by rw [hl1]; omega))]
      rfl
  have hB2 : Below B w W2 := by
    rw [hW2, hW1]
    have h1 := ((hby.mono hBw).grown (below_setCellsB (g := g) ((es.flatMap jobCells).drop (i * 7)) ((i + 1) * 7) wy) (Nat.le_trans hBw hby.size) (fun k hk => by injection hk with hk; omega))
    exact h1.grown (below_setCellsB (g := g) (jobCells x) (i * 7) _) (Nat.le_trans hBw h1.size) (fun k hk => by injection hk with hk; omega)
  have HF := Lib.hid (And.intro hg2 (And.intro hB2 (And.intro hL1 hL2)))
  clear hg2 hB2 hTl hCl hg1 hv1 hl1 hL1 hL2 hg hv hg' hv' hcl hct hn hy hby hat hW1 hW2
  simp only [List.take_succ_cons, List.take_zero, List.drop_succ_cons, List.drop_zero]
  repeat still_step
  refine wpStill_nil ?_
  refine wpList_copyK wy rfl (.tmp 73) (.tmp 76) 22 22 rfl (.slice (some ⟨g, (i + 1) * 7, none⟩) (n - i) (cap - (i + 1))) (.slice (some ⟨g, i * 7, none⟩) (n + 1 - i) (cap - i)) rfl rfl (hcA _ _ _ _ _ (by simp only [Nat.min_def]; split <;> omega)) ?_
  go_wp2_with ((refine wpList_copyK _ rfl (.tmp 80) (.tmp 81) 22 22 rfl (.slice (some ⟨g, i * 7, none⟩) (n + 1 - i) (cap - i)) (.slice (some ⟨vb, 0, none⟩) 1 1) rfl rfl (hcB _ _ _ (by simp only [Nat.min_def]; split <;> omega)) ?_))
  go_ret
  obtain ⟨hg2, hB2, hL1, hL2⟩ := HF.out
  obtain ⟨hg, hv, hcl, hct, hn⟩ := HH.out
  have hCl : (es.flatMap jobCells).length = n * 7 := by rw [flat_len jobCells 7 flatJob.len, hn]
  exact ⟨_, rfl, jobRow_ins hn hi hc (by unfold maxLen; omega) hcl hct hB hg2 hL1 hL2, hB2⟩
set_option maxRecDepth 100000 in
set_option maxHeartbeats 1000000 in
theorem ins_end (B vb : Nat) (s : Value) (es : List Job) (x : Job) (w : World) (hs : JobRow w B s es) (hv : w.heap[vb]? = some (.cells (jobCells x).toArray 24 (0, 0))) (hl : es.length ≤ 1000000) (hBw : B ≤ w.heap.size) :
    Calls Try.prog 27 #[s, .int .i64 es.length, .slice (some ⟨vb, 0, none⟩) 1 1] w fun e w' => ∃ v', e = .returned v' ∧ JobRow w' B v' (es ++ [x]) ∧ Below B w w' := by
  have hsrc : Src w (.slice (some ⟨vb, 0, none⟩) 1 1) 1 (jobCells x) := .inr ⟨_, _, rfl, fun j u h => by rw [addr_add]; exact BlockIs.of hv _ u (by simpa using h)⟩
  have hk : ∀ k, s.ownBlock = some k → B ≤ k := fun k hk => (hs.lt k hk).1
  have hcap : ∃ a cap, s = .slice a es.length cap ∧ es.length ≤ cap ∧ cap ≤ 9223372036854775807 := by
    rcases hs.2 with ⟨h1, h2⟩ | ⟨g, cap, cur, h1, -, -, h2, h3, -⟩
    · exact ⟨none, 0, by rw [h1, h2], by omega, by omega⟩
    · exact ⟨_, cap, h1, h2, by unfold maxLen at h3; omega⟩
  obtain ⟨a, cap, rfl, hc1, hc2⟩ := hcap
  by_cases he : cap = es.length
  · subst he
    have HS := Lib.hid (And.intro hs (And.intro hsrc hk))
    clear hs hsrc hk hv
    go_enter Try.func27, Try.ntmps27
    go_wp2_with (at_builtin; refine wpList_onto _ rfl (.tmp 23) (.tmp 24) 22 rfl B 24 _ 7 56 Try.underlying22 infoJob rfl (by decide) _ es.length _ rfl HS.out.1 1 (jobCells x) HS.out.2.1 rfl (flatJob.one x) (by unfold maxLen; omega) (by omega) hBw ?_)
    intro v' w' hown hg
    have HN := Lib.hid (JobRow.snoc rfl hown)
    have HB := Lib.hid ((Below.refl B w).grown hg hBw HS.out.2.2)
    obtain ⟨va, vc, rfl⟩ := own_shape hown
    clear hown hg
    go_wp2_with fail
    go_ret
    exact ⟨_, rfl, HN.out, HB.out⟩
  · have HS := Lib.hid (And.intro hs (And.intro hsrc hk))
    clear hs hsrc hk hv
    go_enter Try.func27, Try.ntmps27
    go_wp2_with (at_builtin; refine wpList_onto _ rfl (.tmp 23) (.tmp 24) 22 rfl B 24 _ 7 56 Try.underlying22 infoJob rfl (by decide) _ es.length _ rfl HS.out.1 1 (jobCells x) HS.out.2.1 rfl (flatJob.one x) (by unfold maxLen; omega) (by omega) hBw ?_)
    intro v' w' hown hg
    have HN := Lib.hid (JobRow.snoc rfl hown)
    have HB := Lib.hid ((Below.refl B w).grown hg hBw HS.out.2.2)
    obtain ⟨va, vc, rfl⟩ := own_shape hown
    clear hown hg
    go_wp2_with fail
    go_ret
    exact ⟨_, rfl, HN.out, HB.out⟩
set_option maxRecDepth 100000 in
set_option maxHeartbeats 1000000 in
theorem ins_grow (B g n i vb : Nat) (es : List Job) (x : Job) (cur : List Value) (w : World) (hg : w.heap[g]? = some (.cells cur.toArray 24 (0, 0))) (hv : w.heap[vb]? = some (.cells (jobCells x).toArray 24 (0, 0)))
    (hn : n = es.length) (hi : i < n) (hnl : n ≤ 1000000) (hcl : cur.length = n * 7) (hct : cur.take (n * 7) = es.flatMap jobCells) (hBw : B ≤ w.heap.size) :
    Calls Try.prog 27 #[.slice (some ⟨g, 0, none⟩) n n, .int .i64 i, .slice (some ⟨vb, 0, none⟩) 1 1] w fun e w' => ∃ v', e = .returned v' ∧ JobRow w' B v' (es.take i ++ [x] ++ es.drop i) ∧ Below B w w' := by
  obtain ⟨i0, hi0, hz0, hzs, hzb⟩ := info_parts infoJob
  have hCl : (es.flatMap jobCells).length = n * 7 := by rw [flat_len jobCells 7 flatJob.len, hn]
  have hcur : cur = es.flatMap jobCells := by rw [← hct, List.take_of_length_le (by omega)]
  have hTl : ((es.flatMap jobCells).drop (i * 7)).length = (n - i) * 7 := by rw [List.length_drop, hCl]; omega
  have hPl : ((es.flatMap jobCells).take (i * 7)).length = i * 7 := by rw [List.length_take, hCl]; omega
  have hold : (Builtin.firstCells i0.size i (.slice (some ⟨g, 0, none⟩) i n)).run Try.prog w.drew = .ok ((es.flatMap jobCells).take (i * 7)).toArray w.drew := by
    rw [hzs]
    refine run_firstCells_some w.drew 7 i ⟨g, 0, none⟩ i n _ hPl (fun j v hj => ?_)
    rw [addr_add, Nat.zero_add]
    rw [List.getElem?_take] at hj
    split at hj
    · exact BlockIs.of (W := w.drew) hg j v (by rw [hcur]; simpa using hj)
    · cases hj
  have hkk : (n : Int) + 1 - (i : Int) = ((n + 1 - i : Nat) : Int) := by omega
  have hik : i + (n + 1 - i) = n + 1 := by omega
  have hrz : ∀ ty, (Builtin.append_ #[22, 3] ty #[.slice (some ⟨g, 0, none⟩) i n, .int .i64 ((n : Int) + 1 - (i : Int))]).run Try.prog w =
      .ok (.slice (some ⟨w.heap.size, 0, none⟩) (n + 1) (grownCap w (n + 1) n 24)) (w.drew.alloc (.cells (((es.flatMap jobCells).take (i * 7)).toArray ++ Builtin.zeroCells (Value.agg #[.int .i64 0, .int .i64 0, .int .i64 0, .int .i64 0, .int .i64 0, .int .i64 0, .int .i64 0]).cells (n + 1 - i) ++ Builtin.zeroCells (Value.agg #[.int .i64 0, .int .i64 0, .int .i64 0, .int .i64 0, .int .i64 0, .int .i64 0, .int .i64 0]).cells (grownCap w (n + 1) n 24 - (n + 1))) 24)) := fun ty => by
    have h := Lib.run_append_grow_zeros w 22 3 ty 24 i0 _ .i64 .i64 Try.underlying22 Try.underlying3 hi0 hz0 (some ⟨g, 0, none⟩) i n _ hold (n + 1 - i) (by omega) (by omega) (by omega) (by omega) (by rw [hzb]; omega) (by rw [hzb, hik]; exact growslice_fits (by omega) (by omega))
    rw [hik] at h
    rw [hkk]
    exact h
  have hGn := grownCap_ge w (n + 1) n 24
  have hGm := grownCap_le_maxLen w (n + 1) n 24 (by unfold maxLen; omega)
  obtain ⟨G, hG⟩ : ∃ G, G = grownCap w (n + 1) n 24 := ⟨_, rfl⟩
  rw [← hG] at hrz hGn hGm
  obtain ⟨R0, hR0⟩ : ∃ R0 : List Value, R0.toArray = ((es.flatMap jobCells).take (i * 7)).toArray ++ Builtin.zeroCells (Value.agg #[.int .i64 0, .int .i64 0, .int .i64 0, .int .i64 0, .int .i64 0, .int .i64 0, .int .i64 0]).cells (n + 1 - i) ++ Builtin.zeroCells (Value.agg #[.int .i64 0, .int .i64 0, .int .i64 0, .int .i64 0, .int .i64 0, .int .i64 0, .int .i64 0]).cells (G - (n + 1)) := ⟨_, Array.toArray_toList⟩
  rw [← hR0] at hrz
  have hR0l : R0.length = G * 7 := by
    have := congrArg Array.size hR0
    simp only [Array.size_append, List.size_toArray, hPl, Builtin.zeroCells, Array.size_map, Array.size_range, Value.cells] at this
    simp at this
    omega
  have hR0t : R0.take (i * 7) = (es.flatMap jobCells).take (i * 7) := by
    have := congrArg Array.toList hR0
    simp only [Array.toList_append] at this
    rw [this, List.append_assoc, List.take_append_of_le_length (by rw [hPl]; omega), List.take_of_length_le (by rw [hPl]; omega)]
  obtain ⟨N, hN⟩ : ∃ N, N = w.heap.size := ⟨_, rfl⟩
  obtain ⟨W0, hW0⟩ : ∃ W0, W0 = w.drew.alloc (.cells R0.toArray 24) := ⟨_, rfl⟩
  rw [← hW0, ← hN] at hrz
  have hN0 : W0.heap[N]? = some (.cells R0.toArray 24 (0, 0)) := by rw [hW0, hN]; exact blk_new w.drew _
  have hb0 : Below w.heap.size w W0 := by rw [hW0]; exact bthen (below_drew (Below.refl _ _)) (balloc w.drew _)
  have hg0 := keep_at hg hb0
  have hv0 := keep_at hv hb0
  have hNg : g ≠ N := by have := (Array.getElem?_eq_some_iff.1 hg).1; omega
  obtain ⟨W1, hW1⟩ : ∃ W1, W1 = W0.setCells N (i * 7) (jobCells x) := ⟨_, rfl⟩
  obtain ⟨R1, hR1⟩ : ∃ R1, R1 = R0.take (i * 7) ++ jobCells x ++ R0.drop (i * 7 + (jobCells x).length) := ⟨_, rfl⟩
  have hq : (jobCells x).length = 7 := rfl
  have hN1 : W1.heap[N]? = some (.cells R1.toArray 24 (0, 0)) := by rw [hW1, hR1]; exact blk_cells (jobCells x) (i * 7) hN0 (by rw [hq, hR0l]; omega)
  have hR1l : R1.length = G * 7 := by rw [hR1]; simp only [List.length_append, List.length_take, List.length_drop, hq, hR0l]; omega
  have hg1 : W1.heap[g]? = some (.cells cur.toArray 24 (0, 0)) := by
    rw [hW1, (below_setCellsB (g := N) (jobCells x) (i * 7) W0).block g (Array.getElem?_eq_some_iff.1 hg0).1 (by intro h; injection h with h; exact hNg h)]
    exact hg0
  have hb1 : Below B w W1 := by
    rw [hW1]
    exact (hb0.mono hBw).grown (below_setCellsB (g := N) (jobCells x) (i * 7) W0) (Nat.le_trans hBw hb0.size) (fun k hk => by injection hk with hk; omega)
  have hcA : ∀ ty dl dc, Nat.min 1 dl = 1 → (Builtin.copy_ #[22, 22] ty #[.slice (some ⟨N, i * 7, none⟩) dl dc, .slice (some ⟨vb, 0, none⟩) 1 1]).run Try.prog W0 = .ok (goInt (1 : Nat)) W1 := fun ty dl dc hm => by
    rw [hW1]
    refine run_copyK W0 _ _ ty 24 7 N (i * 7) dl dc ⟨vb, 0, none⟩ 1 1 1 (jobCells x) Try.underlying22 sizJob hm rfl ?_ ?_ (fun j hj => thaw hN0 _) (flatJob.one x)
    · intro j u hj
      rw [addr_add]
      exact BlockIs.of hv0 _ u (by simpa using hj)
    · intro j hj
      have hj' : j < 7 := hj
      rw [BlockIs.of hN0 _ _ (show R0.toArray[i * 7 + j]? = some _ by rw [List.getElem?_toArray]; exact List.getElem?_eq_getElem (show i * 7 + j < R0.length by rw [hR0l]; omega))]
      rfl
  have htn : ((i : Int) + 1).toNat = i + 1 := by omega
  have hz2 : ¬ ((i : Int) = (n : Int)) := by omega
  have hw1 : IntKind.i64.wrap ((i : Int) + 1) = (i : Int) + 1 := by rw [IntKind.wrap_i64]; omega
  have hw2 : IntKind.i64.wrap ((n : Int) + 1 - (i : Int)) = (n : Int) + 1 - (i : Int) := by rw [IntKind.wrap_i64]; omega
  have hp1 : (0 : Int) ≤ (i : Int) + 1 := by omega
  have hp2 : ¬ (G = i + 1) := by omega
  have hp3 : (i : Int) ≤ (n : Int) := by omega
  have hp4 : ¬ (G = i) := by omega
  have hp5 : ¬ (n = i) := by omega
  have hin : i ≤ n := by omega
  have hG63 : G ≤ 9223372036854775807 := by unfold maxLen at hGm; omega
  have HF := Lib.hid (And.intro hN1 (And.intro hR1 (And.intro hR1l (And.intro hg1 (And.intro hb1 (And.intro hR0t (And.intro hCl (And.intro hTl (And.intro hPl (And.intro hGm (And.intro hcur (And.intro hN hn))))))))))))
  clear hN1 hR1 hR1l hg1 hb1 hR0t hCl hTl hPl hGm hcur hN hn hkk hik hold hR0 hR0l hW0 hW1 hb0 hg0 hv0 hNg hq hN0 hg hv hct hcl hi0 hz0 hzs hzb hG
  go_enter Try.func27, Try.ntmps27
  go_wp2_with (first
    | (at_builtin; refine Lib.wpList_append_run _ rfl _ _ _ _ rfl _ _ rfl rfl _ _ (hrz _) ?_)
    | (refine wpList_copyK _ rfl (.tmp 43) (.tmp 44) 22 22 rfl (.slice (some ⟨N, i * 7, none⟩) (n + 1 - i) (G - i)) (.slice (some ⟨vb, 0, none⟩) 1 1) rfl rfl (hcA _ _ _ (by simp only [Nat.min_def]; split <;> omega)) ?_))
  refine region_tail 8 (by kernel_rfl) (by kernel_rfl) ?_
  intro wy hy hby
  obtain ⟨hN1, hR1, hR1l, hg1, hb1, hR0t, hCl, hTl, hPl, hGm, hcur, hN, hn⟩ := HF.out
  have hNy : wy.heap[N]? = some (.cells R1.toArray 24 (0, 0)) := by rw [hy]; exact hN1
  have hgy : wy.heap[g]? = some (.cells cur.toArray 24 (0, 0)) := by rw [hy]; exact hg1
  obtain ⟨W2, hW2⟩ : ∃ W2, W2 = wy.setCells N ((i + 1) * 7) ((es.flatMap jobCells).drop (i * 7)) := ⟨_, rfl⟩
  obtain ⟨R2, hR2⟩ : ∃ R2, R2 = R1.take ((i + 1) * 7) ++ (es.flatMap jobCells).drop (i * 7) ++ R1.drop ((i + 1) * 7 + ((es.flatMap jobCells).drop (i * 7)).length) := ⟨_, rfl⟩
  have hN2 : W2.heap[N]? = some (.cells R2.toArray 24 (0, 0)) := by rw [hW2, hR2]; exact blk_cells _ _ hNy (by rw [hTl, hR1l]; omega)
  have hcB : ∀ ty dl dc sl sc, Nat.min sl dl = n - i → (Builtin.copy_ #[22, 22] ty #[.slice (some ⟨N, (i + 1) * 7, none⟩) dl dc, .slice (some ⟨g, i * 7, none⟩) sl sc]).run Try.prog wy = .ok (goInt (n - i : Nat)) W2 := fun ty dl dc sl sc hm => by
    rw [hW2]
    refine run_copyK wy _ _ ty 24 7 N ((i + 1) * 7) dl dc ⟨g, i * 7, none⟩ sl sc (n - i) _ Try.underlying22 sizJob hm hTl ?_ ?_ (fun j hj => thaw hNy _) (fun u hu => flat_one flatJob es u (List.mem_of_mem_drop hu))
    · intro j u hj
      rw [addr_add]
      refine BlockIs.of hgy _ u ?_
      rw [hcur]
      rw [List.getElem?_drop] at hj
      simpa using hj
    · intro j hj
      rw [hTl] at hj
      rw [BlockIs.of hNy _ _ (show R1.toArray[(i + 1) * 7 + j]? = some _ by rw [List.getElem?_toArray]; exact List.getElem?_eq_getElem (show (i + 1) * 7 + j < R1.length by rw [hR1l]; omega))]
      rfl
  have hB2 : Below B w W2 := by
    rw [hW2]
    have h1 := hb1.trans (hby.mono (Nat.le_trans hBw hb1.size))
    exact h1.grown (below_setCellsB (g := N) ((es.flatMap jobCells).drop (i * 7)) ((i + 1) * 7) wy) (Nat.le_trans hBw h1.size) (fun k hk => by injection hk with hk; omega)
  have HE := Lib.hid (And.intro hN2 (And.intro hR2 hB2))
  clear hN1 hR1 hR1l hg1 hb1 hR0t hCl hTl hPl hGm hcur hN hn hy hby hNy hgy hW2 hR2 hN2 hB2 hcA hrz
  simp only [List.take_succ_cons, List.take_zero, List.drop_succ_cons, List.drop_zero]
  repeat still_step
  refine wpStill_nil ?_
  refine wpList_copyK wy rfl (.tmp 50) (.tmp 53) 22 22 rfl (.slice (some ⟨N, (i + 1) * 7, none⟩) (n - i) (G - (i + 1))) (.slice (some ⟨g, i * 7, none⟩) (n - i) (n - i)) rfl rfl (hcB _ _ _ _ _ (by simp only [Nat.min_def]; split <;> omega)) ?_
  go_wp2_with fail
  go_ret
  obtain ⟨hN1, hR1, hR1l, hg1, hb1, hR0t, hCl, hTl, hPl, hGm, hcur, hN, hn⟩ := HF.out
  obtain ⟨hN2, hR2, hB2⟩ := HE.out
  exact ⟨_, rfl, jobRow_grow hn hi hGn hGm hR1l (by rw [← hR0t]; exact hR1) (by rw [hN]; exact hBw) hN2 hR2, hB2⟩
/-- slices.Insert of one job onto a row of the call's own. -/
theorem insert_any (B vb i : Nat) (s : Value) (es : List Job) (x : Job) (w : World) (hs : JobRow w B s es) (hv : w.heap[vb]? = some (.cells (jobCells x).toArray 24 (0, 0))) (hne : s.ownBlock ≠ some vb) (hi : i ≤ es.length) (hl : es.length ≤ 1000000) (hBw : B ≤ w.heap.size) :
    Calls Try.prog 27 #[s, .int .i64 i, .slice (some ⟨vb, 0, none⟩) 1 1] w fun e w' => ∃ v', e = .returned v' ∧ JobRow w' B v' (es.take i ++ [x] ++ es.drop i) ∧ Below B w w' := by
  by_cases he : i = es.length
  · subst he
    have := ins_end B vb s es x w hs hv hl hBw
    simpa using this
  · have hlt : i < es.length := by omega
    rcases hs.2 with ⟨rfl, h0⟩ | ⟨g, cap, cur, rfl, hB, hg, hn, hm, hc, ht⟩
    · omega
    · have hgv : vb ≠ g := fun h => hne (by rw [h]; rfl)
      have hcl : cur.toList.length = cap * 7 := by simpa using hc
      have hg' : w.heap[g]? = some (.cells cur.toList.toArray 24 (0, 0)) := by simpa using hg
      by_cases hcn : es.length + 1 ≤ cap
      · exact ins_shift B g es.length cap i vb es x cur.toList w hg' hv hgv rfl hlt hcn hm hcl ht hB hBw
      · obtain rfl : cap = es.length := by omega
        exact ins_grow B g es.length i vb es x cur.toList w hg' hv rfl hlt hl hcl ht hBw
end Go.Proofs.Ytpjmceiegogobaa
