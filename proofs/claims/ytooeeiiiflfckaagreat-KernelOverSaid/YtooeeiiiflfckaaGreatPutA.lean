/- Several texts of this claim as one. -/
import Derived.Test.YtooeeiiiflfckaaGreatJobA
import Derived.Lib.Overlaps
import Derived.OwnWalk
import Derived.Lib.AppendZerosOnto
import Derived.Laws.IdiomCopy
import Derived.Test.YtooeeiiiflfckaaGreatLibA
import Derived.Test.YtooeeiiiflfckaaGreatJobE
import Derived.Maps.AppendAt
import Derived.Test.YtooeeiiiflfckaaGreatJobM
/- slices.Insert at jobs: onto a row of the call's own. -/
set_option linter.unusedVariables false
set_option linter.unusedSimpArgs false
namespace Go.Proofs.YtooeeiiiflfckaaGreat
open Go.RowKit
section
variable {P : Program}
theorem run_copyK (w : World) (dT sT ty elem : TypeId) (K b o dLen dCap : Nat) (a : Addr) (sLen sCap n : Nat) (cs : List Value)
  (hu : P.underlying dT = some (.slice elem)) (hs : (P.info? elem).map (·.size) = some K) (hm : Nat.min sLen dLen = n) (hn : cs.length = n * K)
  (hsrc : ∀ j v, cs[j]? = some v -> w.cell? (a.add j) = some v) (hc : ∀ j, j < cs.length -> (w.cell? ⟨b, o + j, none⟩).isSome = true) (hf : ∀ j, j < cs.length -> w.frozen? ⟨b, o + j, none⟩ = false) (h1 : ∀ v ∈ cs, v.oneCell' = true) :
  (Builtin.copy_ #[dT, sT] ty #[.slice (some ⟨b, o, none⟩) dLen dCap, .slice (some a) sLen sCap]).run P w = .ok (goInt n) (w.setCells b o cs) := by
 have hl := run_loadCells_list (P := P) w a cs hsrc
 have hst := run_storeCells_cells (P := P) b o cs 0 w (by simpa using hc) (by simpa using hf) h1
 cases hq : P.info? elem with
 | none => simp [hq] at hs
 | some i =>
  have hi : i.size = K := by simpa [hq] using hs
  simp [Builtin.copy_, run_underlying hu, Builtin.lenOf, Builtin.firstCells, sizeOf, typeInfo, hq, hi, hm, <- hn, hl, hst]
theorem wpList_copyK (w : World) {ops : Array Oper} {rest : List Oper} {o : Oper} {a : Act} {Q : Exit -> Act -> World -> Prop} (hgd : o.guard = none) (d s : Operand) (t t' : TypeId)
  (ho : o.op = .call { callee := .builtin .copy, args := #[d, s], argTypes := #[t, t'] }) (v u : Value) (hd : a.eval d = v) (hs : a.eval s = u) {v' : Value} {w' : World}
  (hr : (Builtin.copy_ #[t, t'] o.type #[v, u]).run P w = .ok v' w') (h : wpList P ops Q rest (a.put o.dst v') w') : wpList P ops Q (o :: rest) a w :=
 wpList_plain hgd fun _ hK => by
  unfold Oper.wp execOp
  simp only [ho, resolve, invoke, builtin, Sem.run_bind, Sem.run_pure, Result.andThen_ok, List.map_toArray, List.map_cons, List.map_nil, hd, hs, hr]
  exact hK _ _ h
end
theorem below_setCellsB {g : Nat} : ∀ (vs : List Value) (o : Nat) (w : World), w.grownBy (w.setCells g o vs) (some g)
 | [], _, w => World.grownBy.refl w _
 | v :: r, o, w => by
  rw [World.setCells]
  exact grown_trans (set_grown w g o v) (below_setCellsB r (o + 1) _)
theorem blk_cells {g : Nat} {t : TypeId} : ∀ (vs : List Value) (o : Nat) {W : World} {cur : List Value}, W.heap[g]? = some (.cells cur.toArray t (0, 0)) -> o + vs.length <= cur.length ->
  (W.setCells g o vs).heap[g]? = some (.cells (cur.take o ++ vs ++ cur.drop (o + vs.length)).toArray t (0, 0))
 | [], o, W, cur, h, _ => by simpa [World.setCells] using h
 | v :: r, o, W, cur, h, hl => by
  rw [World.setCells]
  have h1 := blk_set h o v
  rw [List.setIfInBounds_toArray] at h1
  have hlen : o < cur.length := by simp at hl; omega
  have h2 := blk_cells r (o + 1) h1 (by simp at hl |-; omega)
  rw [h2]
  congr 3
  rw [List.take_set, List.drop_set]
  rw [if_pos (by omega)]
  rw [List.set_eq_take_append_cons_drop]
  simp only [List.length_take, List.length_cons]
  rw [if_pos (by omega)]
  rw [List.take_take, Nat.min_eq_left (by omega)]
  rw [List.drop_take, show o + 1 - (o + 1) = 0 by omega]
  simp [Nat.add_assoc, Nat.add_comm 1]
theorem flat_take {α : Type} (f : α -> List Value) (k : Nat) (hl : ∀ x, (f x).length = k) : ∀ (xs : List α) (i : Nat), (xs.flatMap f).take (i * k) = (xs.take i).flatMap f
 | [], i => by simp
 | x :: r, 0 => by simp
 | x :: r, i + 1 => by
  rw [List.flatMap_cons, List.take_append, List.take_succ_cons, List.flatMap_cons, hl, Nat.succ_mul]
  rw [show i * k + k - k = i * k by omega, flat_take f k hl r i, List.take_of_length_le (by rw [hl]; omega)]
theorem flat_drop {α : Type} (f : α -> List Value) (k : Nat) (hl : ∀ x, (f x).length = k) : ∀ (xs : List α) (i : Nat), (xs.flatMap f).drop (i * k) = (xs.drop i).flatMap f
 | [], i => by simp
 | x :: r, 0 => by simp
 | x :: r, i + 1 => by
  rw [List.flatMap_cons, List.drop_append, List.drop_succ_cons, hl, Nat.succ_mul]
  rw [show i * k + k - k = i * k by omega, flat_drop f k hl r i, List.drop_eq_nil_of_le (by rw [hl]; omega), List.nil_append]
theorem shift_list {cur P T X : List Value} {p q r : Nat} (hP : P.length = p) (hc : cur.take (p + r) = P ++ T) (hl : p + q + r <= cur.length) :
  (cur.take (p + q) ++ T ++ cur.drop (p + q + r)).take p ++ X ++ (cur.take (p + q) ++ T ++ cur.drop (p + q + r)).drop (p + q) = P ++ X ++ (T ++ cur.drop (p + q + r)) := by
 have h1 : (cur.take (p + q)).length = p + q := by rw [List.length_take]; omega
 have h2 : cur.take p = P := by
  calc cur.take p = (cur.take (p + r)).take p := by rw [List.take_take, Nat.min_eq_left (Nat.le_add_right p r)]
   _ = (P ++ T).take p := by rw [hc]
   _ = P := by rw [<- hP, List.take_left]
 have h3 : (cur.take (p + q) ++ T ++ cur.drop (p + q + r)).take p = P := by
  rw [List.append_assoc, List.take_append_of_le_length (by rw [h1]; omega), List.take_take, Nat.min_eq_left (Nat.le_add_right p q), h2]
 have h4 : (cur.take (p + q) ++ T ++ cur.drop (p + q + r)).drop (p + q) = T ++ cur.drop (p + q + r) := by
  rw [List.append_assoc]
  have := List.drop_left (l₁ := cur.take (p + q)) (l₂ := T ++ cur.drop (p + q + r))
  rwa [h1] at this
 rw [h3, h4]
theorem jobRow_ins {W : World} {B g n cap i : Nat} {es : List Job} {x : Job} {cur L1 L2 : List Value} (hn : n = es.length) (hi : i < n) (hc : n + 1 <= cap) (hm : cap <= maxLen) (hcl : cur.length = cap * 7) (hct : cur.take (n * 7) = es.flatMap jobCells) (hB : B <= g)
  (hg2 : W.heap[g]? = some (.cells L2.toArray 124 (0, 0))) (hL1 : L1 = cur.take ((i + 1) * 7) ++ (es.flatMap jobCells).drop (i * 7) ++ cur.drop ((i + 1) * 7 + ((es.flatMap jobCells).drop (i * 7)).length)) (hL2 : L2 = L1.take (i * 7) ++ jobCells x ++ L1.drop (i * 7 + (jobCells x).length)) :
  JobRow W B (.slice (some ⟨g, 0, none⟩) (n + 1) cap) (es.take i ++ [x] ++ es.drop i) := by
 have hCl : (es.flatMap jobCells).length = n * 7 := by rw [flat_len jobCells 7 flatJob.len, hn]
 have hTl : ((es.flatMap jobCells).drop (i * 7)).length = (n - i) * 7 := by rw [List.length_drop, hCl]; omega
 have hPl : ((es.flatMap jobCells).take (i * 7)).length = i * 7 := by rw [List.length_take, hCl]; omega
 have hlen : (es.take i ++ [x] ++ es.drop i).length = n + 1 := by simp; omega
 have hq : (jobCells x).length = 7 := rfl
 rw [hq, hL1, Nat.succ_mul, shift_list (P := (es.flatMap jobCells).take (i * 7)) (X := jobCells x) hPl (by rw [List.take_append_drop, hTl, <- hct]; congr 1; omega) (by rw [hcl, hTl]; omega)] at hL2
 have hL2l : L2.length = cap * 7 := by rw [hL2]; simp only [List.length_append, hPl, hq, hTl, List.length_drop, hcl]; omega
 unfold JobRow
 rw [hlen]
 refine ⟨by rw [flat_len jobCells 7 flatJob.len, hlen], .inr ⟨g, cap, L2.toArray, rfl, hB, hg2, hc, hm, by simpa using hL2l, ?_⟩⟩
 show L2.take ((n + 1) * 7) = _
 rw [List.flatMap_append, List.flatMap_append, List.flatMap_singleton, <- flat_take jobCells 7 flatJob.len, <- flat_drop jobCells 7 flatJob.len, hL2, <- List.append_assoc]
 rw [List.take_append_of_le_length (by simp only [List.length_append, hPl, hq, hTl]; omega), List.take_of_length_le (by simp only [List.length_append, hPl, hq, hTl]; omega)]
theorem jobRow_grow {W : World} {B N n G i : Nat} {es : List Job} {x : Job} {D R1 R2 : List Value} (hn : n = es.length) (hi : i < n) (hc : n + 1 <= G) (hm : G <= maxLen) (hR1l : R1.length = G * 7) (hR1 : R1 = (es.flatMap jobCells).take (i * 7) ++ jobCells x ++ D) (hB : B <= N)
  (hN2 : W.heap[N]? = some (.cells R2.toArray 124 (0, 0))) (hR2 : R2 = R1.take ((i + 1) * 7) ++ (es.flatMap jobCells).drop (i * 7) ++ R1.drop ((i + 1) * 7 + ((es.flatMap jobCells).drop (i * 7)).length)) :
  JobRow W B (.slice (some ⟨N, 0, none⟩) (n + 1) G) (es.take i ++ [x] ++ es.drop i) := by
 have hCl : (es.flatMap jobCells).length = n * 7 := by rw [flat_len jobCells 7 flatJob.len, hn]
 have hTl : ((es.flatMap jobCells).drop (i * 7)).length = (n - i) * 7 := by rw [List.length_drop, hCl]; omega
 have hPl : ((es.flatMap jobCells).take (i * 7)).length = i * 7 := by rw [List.length_take, hCl]; omega
 have hlen : (es.take i ++ [x] ++ es.drop i).length = n + 1 := by simp; omega
 have hq : (jobCells x).length = 7 := rfl
 have h1 : R1.take ((i + 1) * 7) = (es.flatMap jobCells).take (i * 7) ++ jobCells x := by
  have := List.take_left (l₁ := (es.flatMap jobCells).take (i * 7) ++ jobCells x) (l₂ := D)
  rw [<- hR1, List.length_append, hPl, hq, <- Nat.succ_mul] at this
  exact this
 rw [h1] at hR2
 have hL2l : R2.length = G * 7 := by rw [hR2]; simp only [List.length_append, hPl, hq, hTl, List.length_drop, hR1l]; omega
 unfold JobRow
 rw [hlen]
 refine ⟨by rw [flat_len jobCells 7 flatJob.len, hlen], .inr ⟨N, G, R2.toArray, rfl, hB, hN2, hc, hm, by simpa using hL2l, ?_⟩⟩
 show R2.take ((n + 1) * 7) = _
 rw [List.flatMap_append, List.flatMap_append, List.flatMap_singleton, <- flat_take jobCells 7 flatJob.len, <- flat_drop jobCells 7 flatJob.len, hR2]
 rw [List.take_append_of_le_length (by simp only [List.length_append, hPl, hq, hTl]; omega), List.take_of_length_le (by simp only [List.length_append, hPl, hq, hTl]; omega)]
theorem sizeJob (w : World) : (Go.sizeOf 124).run Tryz.prog w = .ok 7 w := by
 obtain ⟨i0, hi0, hz0, hzs, hzb⟩ := info_parts infoJob
 simp [sizeOf, typeInfo, hi0, hzs]
theorem sizJob : (Tryz.prog.info? 124).map (·.size) = some 7 := by kernel_rfl
set_option maxRecDepth 100000 in
set_option maxHeartbeats 1000000 in
theorem ins_shift (B g n cap i vb : Nat) (es : List Job) (x : Job) (cur : List Value) (w : World) (hg : w.heap[g]? = some (.cells cur.toArray 124 (0, 0))) (hv : w.heap[vb]? = some (.cells (jobCells x).toArray 124 (0, 0))) (hne : vb ≠ g)
  (hn : n = es.length) (hi : i < n) (hc : n + 1 <= cap) (hm : cap <= maxLen) (hcl : cur.length = cap * 7) (hct : cur.take (n * 7) = es.flatMap jobCells) (hB : B <= g) (hBw : B <= w.heap.size) :
  Calls Tryz.prog 137 #[.slice (some ⟨g, 0, none⟩) n cap, .int .i64 i, .slice (some ⟨vb, 0, none⟩) 1 1] w fun e w' => ∃ v', e = .returned v' /\ JobRow w' B v' (es.take i ++ [x] ++ es.drop i) /\ Below B w w' := by
 have hov : ∀ lb cb, (callFunc 149 #[.slice (some ⟨vb, 0, none⟩) 1 1, .slice (some ⟨g, (i + 1) * 7, none⟩) lb cb]).run Tryz.prog w = .ok (.value (.bool false)) w := fun lb cb => by
  rw [run_callFunc_extern Tryz.func149 (by kernel_rfl) (by kernel_rfl) (by kernel_rfl) (e := Extern.SlicesOverlaps.overlaps #[72, 72] #[4]) (by kernel_rfl),
   Lib.run_overlaps_apart w 72 4 124 Tryz.underlying72 7 sizeJob ⟨vb, 0, none⟩ ⟨g, (i + 1) * 7, none⟩ 1 1 lb cb hne 124 124 7 (cap * 7) (by simp [World.shape?, hv, jobCells]) (by simp [World.shape?, hg, hcl]) (by omega) (thaw hv 0) (thaw hv 7)]
  rfl
 have htn : ((i : Int) + 1).toNat = i + 1 := by omega
 have hz2 : ¬ ((i : Int) = (n : Int)) := by omega
 have hw1 : IntKind.i64.wrap ((i : Int) + 1) = (i : Int) + 1 := by rw [IntKind.wrap_i64]; unfold maxLen at hm; omega
 have hb1 : (0 : Int) <= (i : Int) + 1 := by omega
 have hb2 : ¬ (cap = i + 1) := by omega
 have hb3 : (i : Int) <= (n : Int) + 1 := by omega
 have hb4 : ¬ (cap = i) := by omega
 have hin : i <= n := by omega
 have hmm : cap <= 9223372036854775807 := by unfold maxLen at hm; omega
 have HH := Lib.hid (And.intro hg (And.intro hv (And.intro hcl (And.intro hct hn))))
 clear hg hv hcl hct hn hm
 go_enter Tryz.func137, Tryz.ntmps137
 go_wp2_with (simp only [hov])
 refine region_tail 8 (by kernel_rfl) (by kernel_rfl) ?_
 intro wy hy hby
 obtain ⟨hg, hv, hcl, hct, hn⟩ := HH.out
 have hg' : wy.heap[g]? = some (.cells cur.toArray 124 (0, 0)) := by rw [hy]; exact hg
 have hv' : wy.heap[vb]? = some (.cells (jobCells x).toArray 124 (0, 0)) := by rw [hy]; exact hv
 have hCl : (es.flatMap jobCells).length = n * 7 := by rw [flat_len jobCells 7 flatJob.len, hn]
 have hTl : ((es.flatMap jobCells).drop (i * 7)).length = (n - i) * 7 := by rw [List.length_drop, hCl]; omega
 obtain ⟨W1, hW1⟩ : ∃ W1, W1 = wy.setCells g ((i + 1) * 7) ((es.flatMap jobCells).drop (i * 7)) := ⟨_, rfl⟩
 obtain ⟨W2, hW2⟩ : ∃ W2, W2 = W1.setCells g (i * 7) (jobCells x) := ⟨_, rfl⟩
 have hat : ∀ j u, cur[j]? = some u -> wy.cell? ⟨g, j, none⟩ = some u := fun j u h => BlockIs.of hg' j u (by simpa using h)
 obtain ⟨L1, hL1⟩ : ∃ L1, L1 = cur.take ((i + 1) * 7) ++ (es.flatMap jobCells).drop (i * 7) ++ cur.drop ((i + 1) * 7 + ((es.flatMap jobCells).drop (i * 7)).length) := ⟨_, rfl⟩
 have hl1 : L1.length = cap * 7 := by rw [hL1]; simp only [List.length_append, List.length_take, List.length_drop, hcl, hCl]; omega
 have hg1 : W1.heap[g]? = some (.cells L1.toArray 124 (0, 0)) := by rw [hW1, hL1]; exact blk_cells _ _ hg' (by rw [hTl, hcl]; omega)
 have hv1 : W1.heap[vb]? = some (.cells (jobCells x).toArray 124 (0, 0)) := by
  rw [hW1]
  have hb := below_setCellsB (g := g) ((es.flatMap jobCells).drop (i * 7)) ((i + 1) * 7) wy
  rw [hb.block vb (Array.getElem?_eq_some_iff.1 hv').1 (by intro h; injection h with h; exact hne h)]
  exact hv'
 obtain ⟨L2, hL2⟩ : ∃ L2, L2 = L1.take (i * 7) ++ jobCells x ++ L1.drop (i * 7 + (jobCells x).length) := ⟨_, rfl⟩
 have hg2 : W2.heap[g]? = some (.cells L2.toArray 124 (0, 0)) := by rw [hW2, hL2]; exact blk_cells (jobCells x) (i * 7) hg1 (by rw [flatJob.len, hl1]; omega)
 have hcA : ∀ ty dl dc sl sc, Nat.min sl dl = n - i -> (Builtin.copy_ #[72, 72] ty #[.slice (some ⟨g, (i + 1) * 7, none⟩) dl dc, .slice (some ⟨g, i * 7, none⟩) sl sc]).run Tryz.prog wy = .ok (goInt (n - i : Nat)) W1 := fun ty dl dc sl sc hm => by
  rw [hW1]
  refine run_copyK wy _ _ ty 124 7 g ((i + 1) * 7) dl dc ⟨g, i * 7, none⟩ sl sc (n - i) _ Tryz.underlying72 sizJob hm hTl ?_ ?_ (fun j hj => thaw hg' _) (fun u hu => flat_one flatJob es u (List.mem_of_mem_drop hu))
  ·intro j u hj
   rw [addr_add]
   refine hat _ u ?_
   rw [List.getElem?_drop, <- hct, List.getElem?_take] at hj
   split at hj
   ·exact hj
   ·cases hj
  ·intro j hj
   rw [hTl] at hj
   rw [hat _ _ (List.getElem?_eq_getElem (show (i + 1) * 7 + j < cur.length by rw [hcl]; omega))]
   rfl
 have hcB : ∀ ty dl dc, Nat.min 1 dl = 1 -> (Builtin.copy_ #[72, 72] ty #[.slice (some ⟨g, i * 7, none⟩) dl dc, .slice (some ⟨vb, 0, none⟩) 1 1]).run Tryz.prog W1 = .ok (goInt (1 : Nat)) W2 := fun ty dl dc hm => by
  rw [hW2]
  refine run_copyK W1 _ _ ty 124 7 g (i * 7) dl dc ⟨vb, 0, none⟩ 1 1 1 (jobCells x) Tryz.underlying72 sizJob hm rfl ?_ ?_ (fun j hj => thaw hg1 _) (flatJob.one x)
  ·intro j u hj
   rw [addr_add]
   exact BlockIs.of hv1 _ u (by simpa using hj)
  ·intro j hj
   have hj' : j < 7 := hj
   rw [BlockIs.of hg1 _ _ (show L1.toArray[i * 7 + j]? = some _ by rw [List.getElem?_toArray]; exact List.getElem?_eq_getElem (show i * 7 + j < L1.length by rw [hl1]; omega))]
   rfl
 have hB2 : Below B w W2 := by
  rw [hW2, hW1]
  have h1 := ((hby.mono hBw).grown (below_setCellsB (g := g) ((es.flatMap jobCells).drop (i * 7)) ((i + 1) * 7) wy) (Nat.le_trans hBw hby.size) (fun k hk => by injection hk with hk; omega))
  exact h1.grown (below_setCellsB (g := g) (jobCells x) (i * 7) _) (Nat.le_trans hBw h1.size) (fun k hk => by injection hk with hk; omega)
 have HF := Lib.hid (And.intro hg2 (And.intro hB2 (And.intro hL1 hL2)))
 clear hg2 hB2 hTl hCl hg1 hv1 hl1 hL1 hL2 hg hv hg' hv' hcl hct hn hy hby hat hW1 hW2
 simp only [List.take_succ_cons, List.take_zero, List.drop_succ_cons, List.drop_zero]
 repeat still_step
 refine wpStill_nil ?_
 refine wpList_copyK wy rfl (.tmp 73) (.tmp 76) 72 72 rfl (.slice (some ⟨g, (i + 1) * 7, none⟩) (n - i) (cap - (i + 1))) (.slice (some ⟨g, i * 7, none⟩) (n + 1 - i) (cap - i)) rfl rfl (hcA _ _ _ _ _ (by simp only [Nat.min_def]; split <;> omega)) ?_
 go_wp2_with ((refine wpList_copyK _ rfl (.tmp 80) (.tmp 81) 72 72 rfl (.slice (some ⟨g, i * 7, none⟩) (n + 1 - i) (cap - i)) (.slice (some ⟨vb, 0, none⟩) 1 1) rfl rfl (hcB _ _ _ (by simp only [Nat.min_def]; split <;> omega)) ?_))
 go_ret
 obtain ⟨hg2, hB2, hL1, hL2⟩ := HF.out
 obtain ⟨hg, hv, hcl, hct, hn⟩ := HH.out
 have hCl : (es.flatMap jobCells).length = n * 7 := by rw [flat_len jobCells 7 flatJob.len, hn]
 exact ⟨_, rfl, jobRow_ins hn hi hc (by unfold maxLen; omega) hcl hct hB hg2 hL1 hL2, hB2⟩
set_option maxRecDepth 100000 in
set_option maxHeartbeats 1000000 in
theorem ins_end (B vb : Nat) (s : Value) (es : List Job) (x : Job) (w : World) (hs : JobRow w B s es) (hv : w.heap[vb]? = some (.cells (jobCells x).toArray 124 (0, 0))) (hl : es.length <= 1000000) (hBw : B <= w.heap.size) :
  Calls Tryz.prog 137 #[s, .int .i64 es.length, .slice (some ⟨vb, 0, none⟩) 1 1] w fun e w' => ∃ v', e = .returned v' /\ JobRow w' B v' (es ++ [x]) /\ Below B w w' := by
 have hsrc : Src w (.slice (some ⟨vb, 0, none⟩) 1 1) 1 (jobCells x) := .inr ⟨_, _, rfl, fun j u h => by rw [addr_add]; exact BlockIs.of hv _ u (by simpa using h)⟩
 have hk : ∀ k, s.ownBlock = some k -> B <= k := fun k hk => (hs.lt k hk).1
 have hcap : ∃ a cap, s = .slice a es.length cap /\ es.length <= cap /\ cap <= 9223372036854775807 := by
  rcases hs.2 with ⟨h1, h2⟩ | ⟨g, cap, cur, h1, -, -, h2, h3, -⟩
  ·exact ⟨none, 0, by rw [h1, h2], by omega, by omega⟩
  ·exact ⟨_, cap, h1, h2, by unfold maxLen at h3; omega⟩
 obtain ⟨a, cap, rfl, hc1, hc2⟩ := hcap
 by_cases he : cap = es.length
 ·subst he
  have HS := Lib.hid (And.intro hs (And.intro hsrc hk))
  clear hs hsrc hk hv
  go_enter Tryz.func137, Tryz.ntmps137
  go_wp2_with (at_builtin; refine wpList_onto _ rfl (.tmp 23) (.tmp 24) 72 rfl B 124 _ 7 56 Tryz.underlying72 infoJob rfl (by decide) _ es.length _ rfl HS.out.1 1 (jobCells x) HS.out.2.1 rfl (flatJob.one x) (by unfold maxLen; omega) (by omega) hBw ?_)
  intro v' w' hown hg
  have HN := Lib.hid (JobRow.snoc rfl hown)
  have HB := Lib.hid ((Below.refl B w).grown hg hBw HS.out.2.2)
  obtain ⟨va, vc, rfl⟩ := own_shape hown
  clear hown hg
  go_wp2_with fail
  go_ret
  exact ⟨_, rfl, HN.out, HB.out⟩
 ·have HS := Lib.hid (And.intro hs (And.intro hsrc hk))
  clear hs hsrc hk hv
  go_enter Tryz.func137, Tryz.ntmps137
  go_wp2_with (at_builtin; refine wpList_onto _ rfl (.tmp 23) (.tmp 24) 72 rfl B 124 _ 7 56 Tryz.underlying72 infoJob rfl (by decide) _ es.length _ rfl HS.out.1 1 (jobCells x) HS.out.2.1 rfl (flatJob.one x) (by unfold maxLen; omega) (by omega) hBw ?_)
  intro v' w' hown hg
  have HN := Lib.hid (JobRow.snoc rfl hown)
  have HB := Lib.hid ((Below.refl B w).grown hg hBw HS.out.2.2)
  obtain ⟨va, vc, rfl⟩ := own_shape hown
  clear hown hg
  go_wp2_with fail
  go_ret
  exact ⟨_, rfl, HN.out, HB.out⟩
set_option maxRecDepth 100000 in
set_option maxHeartbeats 1000000 in
theorem ins_grow (B g n i vb : Nat) (es : List Job) (x : Job) (cur : List Value) (w : World) (hg : w.heap[g]? = some (.cells cur.toArray 124 (0, 0))) (hv : w.heap[vb]? = some (.cells (jobCells x).toArray 124 (0, 0)))
  (hn : n = es.length) (hi : i < n) (hnl : n <= 1000000) (hcl : cur.length = n * 7) (hct : cur.take (n * 7) = es.flatMap jobCells) (hBw : B <= w.heap.size) :
  Calls Tryz.prog 137 #[.slice (some ⟨g, 0, none⟩) n n, .int .i64 i, .slice (some ⟨vb, 0, none⟩) 1 1] w fun e w' => ∃ v', e = .returned v' /\ JobRow w' B v' (es.take i ++ [x] ++ es.drop i) /\ Below B w w' := by
 obtain ⟨i0, hi0, hz0, hzs, hzb⟩ := info_parts infoJob
 have hCl : (es.flatMap jobCells).length = n * 7 := by rw [flat_len jobCells 7 flatJob.len, hn]
 have hcur : cur = es.flatMap jobCells := by rw [<- hct, List.take_of_length_le (by omega)]
 have hTl : ((es.flatMap jobCells).drop (i * 7)).length = (n - i) * 7 := by rw [List.length_drop, hCl]; omega
 have hPl : ((es.flatMap jobCells).take (i * 7)).length = i * 7 := by rw [List.length_take, hCl]; omega
 have hold : (Builtin.firstCells i0.size i (.slice (some ⟨g, 0, none⟩) i n)).run Tryz.prog w.drew = .ok ((es.flatMap jobCells).take (i * 7)).toArray w.drew := by
  rw [hzs]
  refine run_firstCells_some w.drew 7 i ⟨g, 0, none⟩ i n _ hPl (fun j v hj => ?_)
  rw [addr_add, Nat.zero_add]
  rw [List.getElem?_take] at hj
  split at hj
  ·exact BlockIs.of (W := w.drew) hg j v (by rw [hcur]; simpa using hj)
  ·cases hj
 have hkk : (n : Int) + 1 - (i : Int) = ((n + 1 - i : Nat) : Int) := by omega
 have hik : i + (n + 1 - i) = n + 1 := by omega
 have hrz : ∀ ty, (Builtin.append_ #[72, 3] ty #[.slice (some ⟨g, 0, none⟩) i n, .int .i64 ((n : Int) + 1 - (i : Int))]).run Tryz.prog w =
   .ok (.slice (some ⟨w.heap.size, 0, none⟩) (n + 1) (grownCap w (n + 1) n 124)) (w.drew.alloc (.cells (((es.flatMap jobCells).take (i * 7)).toArray ++ Builtin.zeroCells (Value.agg #[.int .i64 0, .int .i64 0, .int .i64 0, .int .i64 0, .int .i64 0, .int .i64 0, .int .i64 0]).cells (n + 1 - i) ++ Builtin.zeroCells (Value.agg #[.int .i64 0, .int .i64 0, .int .i64 0, .int .i64 0, .int .i64 0, .int .i64 0, .int .i64 0]).cells (grownCap w (n + 1) n 124 - (n + 1))) 124)) := fun ty => by
  have h := Lib.run_append_grow_zeros w 72 3 ty 124 i0 _ .i64 .i64 Tryz.underlying72 Tryz.underlying3 hi0 hz0 (some ⟨g, 0, none⟩) i n _ hold (n + 1 - i) (by omega) (by omega) (by omega) (by omega) (by rw [hzb]; omega) (by rw [hzb, hik]; exact growslice_fits (by omega) (by omega))
  rw [hik] at h
  rw [hkk]
  exact h
 have hGn := grownCap_ge w (n + 1) n 124
 have hGm := grownCap_le_maxLen w (n + 1) n 124 (by unfold maxLen; omega)
 obtain ⟨G, hG⟩ : ∃ G, G = grownCap w (n + 1) n 124 := ⟨_, rfl⟩
 rw [<- hG] at hrz hGn hGm
 obtain ⟨R0, hR0⟩ : ∃ R0 : List Value, R0.toArray = ((es.flatMap jobCells).take (i * 7)).toArray ++ Builtin.zeroCells (Value.agg #[.int .i64 0, .int .i64 0, .int .i64 0, .int .i64 0, .int .i64 0, .int .i64 0, .int .i64 0]).cells (n + 1 - i) ++ Builtin.zeroCells (Value.agg #[.int .i64 0, .int .i64 0, .int .i64 0, .int .i64 0, .int .i64 0, .int .i64 0, .int .i64 0]).cells (G - (n + 1)) := ⟨_, Array.toArray_toList⟩
 rw [<- hR0] at hrz
 have hR0l : R0.length = G * 7 := by
  have := congrArg Array.size hR0
  simp only [Array.size_append, List.size_toArray, hPl, Builtin.zeroCells, Array.size_map, Array.size_range, Value.cells] at this
  simp at this
  omega
 have hR0t : R0.take (i * 7) = (es.flatMap jobCells).take (i * 7) := by
  have := congrArg Array.toList hR0
  simp only [Array.toList_append] at this
  rw [this, List.append_assoc, List.take_append_of_le_length (by rw [hPl]; omega), List.take_of_length_le (by rw [hPl]; omega)]
 obtain ⟨N, hN⟩ : ∃ N, N = w.heap.size := ⟨_, rfl⟩
 obtain ⟨W0, hW0⟩ : ∃ W0, W0 = w.drew.alloc (.cells R0.toArray 124) := ⟨_, rfl⟩
 rw [<- hW0, <- hN] at hrz
 have hN0 : W0.heap[N]? = some (.cells R0.toArray 124 (0, 0)) := by rw [hW0, hN]; exact blk_new w.drew _
 have hb0 : Below w.heap.size w W0 := by rw [hW0]; exact bthen (below_drew (Below.refl _ _)) (balloc w.drew _)
 have hg0 := keep_at hg hb0
 have hv0 := keep_at hv hb0
 have hNg : g ≠ N := by have := (Array.getElem?_eq_some_iff.1 hg).1; omega
 obtain ⟨W1, hW1⟩ : ∃ W1, W1 = W0.setCells N (i * 7) (jobCells x) := ⟨_, rfl⟩
 obtain ⟨R1, hR1⟩ : ∃ R1, R1 = R0.take (i * 7) ++ jobCells x ++ R0.drop (i * 7 + (jobCells x).length) := ⟨_, rfl⟩
 have hq : (jobCells x).length = 7 := rfl
 have hN1 : W1.heap[N]? = some (.cells R1.toArray 124 (0, 0)) := by rw [hW1, hR1]; exact blk_cells (jobCells x) (i * 7) hN0 (by rw [hq, hR0l]; omega)
 have hR1l : R1.length = G * 7 := by rw [hR1]; simp only [List.length_append, List.length_take, List.length_drop, hq, hR0l]; omega
 have hg1 : W1.heap[g]? = some (.cells cur.toArray 124 (0, 0)) := by
  rw [hW1, (below_setCellsB (g := N) (jobCells x) (i * 7) W0).block g (Array.getElem?_eq_some_iff.1 hg0).1 (by intro h; injection h with h; exact hNg h)]
  exact hg0
 have hb1 : Below B w W1 := by
  rw [hW1]
  exact (hb0.mono hBw).grown (below_setCellsB (g := N) (jobCells x) (i * 7) W0) (Nat.le_trans hBw hb0.size) (fun k hk => by injection hk with hk; omega)
 have hcA : ∀ ty dl dc, Nat.min 1 dl = 1 -> (Builtin.copy_ #[72, 72] ty #[.slice (some ⟨N, i * 7, none⟩) dl dc, .slice (some ⟨vb, 0, none⟩) 1 1]).run Tryz.prog W0 = .ok (goInt (1 : Nat)) W1 := fun ty dl dc hm => by
  rw [hW1]
  refine run_copyK W0 _ _ ty 124 7 N (i * 7) dl dc ⟨vb, 0, none⟩ 1 1 1 (jobCells x) Tryz.underlying72 sizJob hm rfl ?_ ?_ (fun j hj => thaw hN0 _) (flatJob.one x)
  ·intro j u hj
   rw [addr_add]
   exact BlockIs.of hv0 _ u (by simpa using hj)
  ·intro j hj
   have hj' : j < 7 := hj
   rw [BlockIs.of hN0 _ _ (show R0.toArray[i * 7 + j]? = some _ by rw [List.getElem?_toArray]; exact List.getElem?_eq_getElem (show i * 7 + j < R0.length by rw [hR0l]; omega))]
   rfl
 have htn : ((i : Int) + 1).toNat = i + 1 := by omega
 have hz2 : ¬ ((i : Int) = (n : Int)) := by omega
 have hw1 : IntKind.i64.wrap ((i : Int) + 1) = (i : Int) + 1 := by rw [IntKind.wrap_i64]; omega
 have hw2 : IntKind.i64.wrap ((n : Int) + 1 - (i : Int)) = (n : Int) + 1 - (i : Int) := by rw [IntKind.wrap_i64]; omega
 have hp1 : (0 : Int) <= (i : Int) + 1 := by omega
 have hp2 : ¬ (G = i + 1) := by omega
 have hp3 : (i : Int) <= (n : Int) := by omega
 have hp4 : ¬ (G = i) := by omega
 have hp5 : ¬ (n = i) := by omega
 have hin : i <= n := by omega
 have hG63 : G <= 9223372036854775807 := by unfold maxLen at hGm; omega
 have HF := Lib.hid (And.intro hN1 (And.intro hR1 (And.intro hR1l (And.intro hg1 (And.intro hb1 (And.intro hR0t (And.intro hCl (And.intro hTl (And.intro hPl (And.intro hGm (And.intro hcur (And.intro hN hn))))))))))))
 clear hN1 hR1 hR1l hg1 hb1 hR0t hCl hTl hPl hGm hcur hN hn hkk hik hold hR0 hR0l hW0 hW1 hb0 hg0 hv0 hNg hq hN0 hg hv hct hcl hi0 hz0 hzs hzb hG
 go_enter Tryz.func137, Tryz.ntmps137
 go_wp2_with (first
  | (at_builtin; refine Lib.wpList_append_run _ rfl _ _ _ _ rfl _ _ rfl rfl _ _ (hrz _) ?_)
  | (refine wpList_copyK _ rfl (.tmp 43) (.tmp 44) 72 72 rfl (.slice (some ⟨N, i * 7, none⟩) (n + 1 - i) (G - i)) (.slice (some ⟨vb, 0, none⟩) 1 1) rfl rfl (hcA _ _ _ (by simp only [Nat.min_def]; split <;> omega)) ?_))
 refine region_tail 8 (by kernel_rfl) (by kernel_rfl) ?_
 intro wy hy hby
 obtain ⟨hN1, hR1, hR1l, hg1, hb1, hR0t, hCl, hTl, hPl, hGm, hcur, hN, hn⟩ := HF.out
 have hNy : wy.heap[N]? = some (.cells R1.toArray 124 (0, 0)) := by rw [hy]; exact hN1
 have hgy : wy.heap[g]? = some (.cells cur.toArray 124 (0, 0)) := by rw [hy]; exact hg1
 obtain ⟨W2, hW2⟩ : ∃ W2, W2 = wy.setCells N ((i + 1) * 7) ((es.flatMap jobCells).drop (i * 7)) := ⟨_, rfl⟩
 obtain ⟨R2, hR2⟩ : ∃ R2, R2 = R1.take ((i + 1) * 7) ++ (es.flatMap jobCells).drop (i * 7) ++ R1.drop ((i + 1) * 7 + ((es.flatMap jobCells).drop (i * 7)).length) := ⟨_, rfl⟩
 have hN2 : W2.heap[N]? = some (.cells R2.toArray 124 (0, 0)) := by rw [hW2, hR2]; exact blk_cells _ _ hNy (by rw [hTl, hR1l]; omega)
 have hcB : ∀ ty dl dc sl sc, Nat.min sl dl = n - i -> (Builtin.copy_ #[72, 72] ty #[.slice (some ⟨N, (i + 1) * 7, none⟩) dl dc, .slice (some ⟨g, i * 7, none⟩) sl sc]).run Tryz.prog wy = .ok (goInt (n - i : Nat)) W2 := fun ty dl dc sl sc hm => by
  rw [hW2]
  refine run_copyK wy _ _ ty 124 7 N ((i + 1) * 7) dl dc ⟨g, i * 7, none⟩ sl sc (n - i) _ Tryz.underlying72 sizJob hm hTl ?_ ?_ (fun j hj => thaw hNy _) (fun u hu => flat_one flatJob es u (List.mem_of_mem_drop hu))
  ·intro j u hj
   rw [addr_add]
   refine BlockIs.of hgy _ u ?_
   rw [hcur]
   rw [List.getElem?_drop] at hj
   simpa using hj
  ·intro j hj
   rw [hTl] at hj
   rw [BlockIs.of hNy _ _ (show R1.toArray[(i + 1) * 7 + j]? = some _ by rw [List.getElem?_toArray]; exact List.getElem?_eq_getElem (show (i + 1) * 7 + j < R1.length by rw [hR1l]; omega))]
   rfl
 have hB2 : Below B w W2 := by
  rw [hW2]
  have h1 := hb1.trans (hby.mono (Nat.le_trans hBw hb1.size))
  exact h1.grown (below_setCellsB (g := N) ((es.flatMap jobCells).drop (i * 7)) ((i + 1) * 7) wy) (Nat.le_trans hBw h1.size) (fun k hk => by injection hk with hk; omega)
 have HE := Lib.hid (And.intro hN2 (And.intro hR2 hB2))
 clear hN1 hR1 hR1l hg1 hb1 hR0t hCl hTl hPl hGm hcur hN hn hy hby hNy hgy hW2 hR2 hN2 hB2 hcA hrz
 simp only [List.take_succ_cons, List.take_zero, List.drop_succ_cons, List.drop_zero]
 repeat still_step
 refine wpStill_nil ?_
 refine wpList_copyK wy rfl (.tmp 50) (.tmp 53) 72 72 rfl (.slice (some ⟨N, (i + 1) * 7, none⟩) (n - i) (G - (i + 1))) (.slice (some ⟨g, i * 7, none⟩) (n - i) (n - i)) rfl rfl (hcB _ _ _ _ _ (by simp only [Nat.min_def]; split <;> omega)) ?_
 go_wp2_with fail
 go_ret
 obtain ⟨hN1, hR1, hR1l, hg1, hb1, hR0t, hCl, hTl, hPl, hGm, hcur, hN, hn⟩ := HF.out
 obtain ⟨hN2, hR2, hB2⟩ := HE.out
 exact ⟨_, rfl, jobRow_grow hn hi hGn hGm hR1l (by rw [<- hR0t]; exact hR1) (by rw [hN]; exact hBw) hN2 hR2, hB2⟩
theorem insert_any (B vb i : Nat) (s : Value) (es : List Job) (x : Job) (w : World) (hs : JobRow w B s es) (hv : w.heap[vb]? = some (.cells (jobCells x).toArray 124 (0, 0))) (hne : s.ownBlock ≠ some vb) (hi : i <= es.length) (hl : es.length <= 1000000) (hBw : B <= w.heap.size) :
  Calls Tryz.prog 137 #[s, .int .i64 i, .slice (some ⟨vb, 0, none⟩) 1 1] w fun e w' => ∃ v', e = .returned v' /\ JobRow w' B v' (es.take i ++ [x] ++ es.drop i) /\ Below B w w' := by
 by_cases he : i = es.length
 ·subst he
  have := ins_end B vb s es x w hs hv hl hBw
  simpa using this
 ·have hlt : i < es.length := by omega
  rcases hs.2 with ⟨rfl, h0⟩ | ⟨g, cap, cur, rfl, hB, hg, hn, hm, hc, ht⟩
  ·omega
  ·have hgv : vb ≠ g := fun h => hne (by rw [h]; rfl)
   have hcl : cur.toList.length = cap * 7 := by simpa using hc
   have hg' : w.heap[g]? = some (.cells cur.toList.toArray 124 (0, 0)) := by simpa using hg
   by_cases hcn : es.length + 1 <= cap
   ·exact ins_shift B g es.length cap i vb es x cur.toList w hg' hv hgv rfl hlt hcn hm hcl ht hB hBw
   ·obtain rfl : cap = es.length := by omega
    exact ins_grow B g es.length i vb es x cur.toList w hg' hv rfl hlt hl hcl ht hBw
end Go.Proofs.YtooeeiiiflfckaaGreat
/- slices.BinarySearchFunc at jobs, by ready.compare. -/
namespace Go.Proofs.YtooeeiiiflfckaaGreat
open Go.RowKit
def pos (js : List Job) (x : Job) : Nat := (js.takeWhile (fun y => ahead y x)).length
theorem pos_eq {js : List Job} {x : Job} {p : Nat} (hp : p <= js.length) (h1 : ∀ k (h : k < js.length), k < p -> ahead js[k] x = true) (h2 : ∀ h : p < js.length, ahead js[p] x = false) : pos js x = p := by
 unfold pos
 induction js generalizing p with
 | nil => simp at hp; simp [hp]
 | cons y r ih =>
  cases p with
  | zero =>
   have := h2 (by simp)
   simp at this
   simp [List.takeWhile_cons, this]
  | succ p =>
   have hy := h1 0 (by simp) (by omega)
   simp at hy
   rw [List.takeWhile_cons, hy]
   simp only [if_true, List.length_cons]
   rw [ih (p := p) (by simpa using hp) (fun k h hk => h1 (k + 1) (by simpa using h) (by omega)) (fun h => h2 (by simpa using h))]
def hit (js : List Job) (x : Job) : Bool := decide ((js[pos js x]?.map (fun y => cmpJ y x)) = some 0)
set_option maxRecDepth 100000 in
set_option maxHeartbeats 8000000 in
theorem bsearch_any (v : Value) (js : List Job) (x : Job) (w : World) (hv : JobsV w v js) (hs : ∀ a b (hb : b < js.length) (hab : a <= b), ahead js[b] x = true -> ahead (js[a]'(by omega)) x = true) (hl : js.length <= 1000000) :
  Calls Tryz.prog 148 #[v, jobV x, .func (.func 147) #[] #[]] w fun e w' => e = .returned (.tuple #[.int .i64 (pos js x), .bool (hit js x)]) /\ Below w.heap.size w w' := by
 obtain ⟨a, cap, rfl, h2, h3, h4, h5⟩ := hv
 have H := Lib.hid (And.intro h5 hs)
 have hb0 := balloc w (.cells #[.int .i64 x.task, .int .i64 x.seq, .int .i64 x.prio, .int .i64 x.release, .int .i64 x.deadline, .int .i64 x.demand, .int .i64 x.used] 124)
 have hx0 : JobAt (w.alloc (.cells #[.int .i64 x.task, .int .i64 x.seq, .int .i64 x.prio, .int .i64 x.release, .int .i64 x.deadline, .int .i64 x.demand, .int .i64 x.used] 124)) w.heap.size 0 x := flatJob.of _ _ _ _ (fun j u hu => by rw [Nat.zero_add]; exact box_at j (by simpa [jobCells] using hu))
 have HX := Lib.hid (And.intro hb0 hx0)
 clear h5 hs hb0 hx0
 go_enter Tryz.func148, Tryz.ntmps148
 go_wp2_with fail
 obtain ⟨w0, hw0⟩ : ∃ w0, w0 = w.alloc (.cells #[.int .i64 x.task, .int .i64 x.seq, .int .i64 x.prio, .int .i64 x.release, .int .i64 x.deadline, .int .i64 x.demand, .int .i64 x.used] 124) := ⟨_, rfl⟩
 obtain ⟨bx, hbx⟩ : ∃ bx, bx = w.heap.size := ⟨_, rfl⟩
 rw [<- hw0, <- hbx] at HX |-
 have HBX := Lib.hid hbx
 clear hw0 hbx
 go_loopw [9, 10, 11] (fun i j _ wr => ∃ p q : Nat, p <= q /\ q <= js.length /\ i = .int .i64 p /\ j = .int .i64 q /\ Hid ((∀ k (h : k < js.length), k < p -> ahead js[k] x = true) /\ (∀ k (h : k < js.length), q <= k -> ahead js[k] x = false)) /\ Below bx w wr /\ Hid (JobAt wr bx 0 x)) (fun i j _ _ => (intOf j).toNat - (intOf i).toNat)
 case atStart => exact ⟨0, js.length, by omega, by omega, rfl, rfl, Lib.hid ⟨fun k h h' => by omega, fun k h h' => by omega⟩, HX.out.1, Lib.hid HX.out.2⟩
 case round =>
  obtain ⟨p, q, hpq, hq, rfl, rfl, HD, hB, HY⟩ := hrel
  have HB := Lib.hid hB
  clear hB
  by_cases hlt : p < q
  ·obtain ⟨m, hm⟩ : ∃ m, m = (p + q) / 2 := ⟨_, rfl⟩
   have hi : ((p : Int) + q) / 2 = (m : Int) := by omega
   have hm1 : p <= m := by omega
   have hm2 : m < q := by omega
   have hml : m < js.length := by omega
   have hm3 : (0 : Int) <= (m : Int) := by omega
   have hm4 : (m : Int) < (js.length : Int) := by omega
   clear hm
   obtain ⟨b, off, rfl, hc⟩ := H.out.1 (by intro h; rw [h] at hml; simp at hml)
   have HC := Lib.hid (hc m hml)
   obtain ⟨c, hcq⟩ : ∃ c, c = cmpJ js[m] x := ⟨_, rfl⟩
   have HQ := Lib.hid hcq
   clear hc hcq
   by_cases hneg : c < 0
   ·have HA := Lib.hid ((cmpJ_neg js[m] x).1 (HQ.out ▸ hneg))
    have hneg' : decide (c < 0) = true := decide_eq_true hneg
    go_wp2_with fail
    refine region_tail 6 (by kernel_rfl) (by kernel_rfl) ?_
    intro wy hy hby
    have hE : Ext w wy := fun a v h => by rw [cell_of_heap hy]; exact Ext.below (HBX.out ▸ HB.out) _ _ h
    obtain ⟨y0, y1, y2, y3, y4, y5, y6⟩ := HC.out.ext hE
    obtain ⟨x0, x1, x2, x3, x4, x5, x6⟩ := HY.out.ext (show Ext wr wy from fun a v h => by rw [cell_of_heap hy]; exact h)
    unfold IntAt at y0 y1 y2 y3 y4 y5 y6 x0 x1 x2 x3 x4 x5 x6
    have HBY := Lib.hid hby
    clear hE hy hby
    simp only [List.take_succ_cons, List.take_zero, List.drop_succ_cons, List.drop_zero]
    repeat still_step
    refine wpStill_nil ?_
    go_wp2_with fail
    refine (compare_any js[m] x _).mono ?_
    rw [<- HQ.out]
    rintro e w5 ⟨rfl, hb5⟩
    have HB5 := Lib.hid (HB.out.trans ((bthen HBY.out hb5).mono (HBX.out ▸ HB.out.size)))
    have HY5 := Lib.hid (HY.out.ext (Ext.below (bthen HBY.out hb5)))
    clear y0 y1 y2 y3 y4 y5 y6 x0 x1 x2 x3 x4 x5 x6 hb5
    go_wp2_with fail
    go_roundw
    case rel => exact ⟨m + 1, q, by omega, by omega, by go_num, rfl, Lib.hid ⟨fun k h hk => H.out.2 k m hml (by omega) HA.out, HD.out.2⟩, HB5.out, HY5⟩
    case measure => simp [intOf]; omega
   ·have HA := Lib.hid (show ahead js[m] x = false from Bool.eq_false_iff.2 (fun h => hneg (HQ.out ▸ (cmpJ_neg js[m] x).2 h)))
    have hneg' : decide (c < 0) = false := decide_eq_false hneg
    clear hneg
    go_wp2_with fail
    refine region_tail 6 (by kernel_rfl) (by kernel_rfl) ?_
    intro wy hy hby
    have hE : Ext w wy := fun a v h => by rw [cell_of_heap hy]; exact Ext.below (HBX.out ▸ HB.out) _ _ h
    obtain ⟨y0, y1, y2, y3, y4, y5, y6⟩ := HC.out.ext hE
    obtain ⟨x0, x1, x2, x3, x4, x5, x6⟩ := HY.out.ext (show Ext wr wy from fun a v h => by rw [cell_of_heap hy]; exact h)
    unfold IntAt at y0 y1 y2 y3 y4 y5 y6 x0 x1 x2 x3 x4 x5 x6
    have HBY := Lib.hid hby
    clear hE hy hby
    simp only [List.take_succ_cons, List.take_zero, List.drop_succ_cons, List.drop_zero]
    repeat still_step
    refine wpStill_nil ?_
    go_wp2_with fail
    refine (compare_any js[m] x _).mono ?_
    rw [<- HQ.out]
    rintro e w5 ⟨rfl, hb5⟩
    have HB5 := Lib.hid (HB.out.trans ((bthen HBY.out hb5).mono (HBX.out ▸ HB.out.size)))
    have HY5 := Lib.hid (HY.out.ext (Ext.below (bthen HBY.out hb5)))
    clear y0 y1 y2 y3 y4 y5 y6 x0 x1 x2 x3 x4 x5 x6 hb5
    go_wp2_with fail
    go_roundw
    case rel => exact ⟨p, m, by omega, by omega, rfl, by go_num, Lib.hid ⟨HD.out.1, fun k h hk => Bool.eq_false_iff.2 (fun h' => by have := H.out.2 m k h hk h'; rw [HA.out] at this; cases this)⟩, HB5.out, HY5⟩
    case measure => simp [intOf]; omega
  ·obtain rfl : p = q := by omega
   have HP := Lib.hid (pos_eq hq HD.out.1 (fun h => HD.out.2 p h (Nat.le_refl _)))
   by_cases hlt' : p < js.length
   ·obtain ⟨b, off, rfl, hc⟩ := H.out.1 (by intro h; rw [h] at hlt'; simp at hlt')
    have HC := Lib.hid (hc p hlt')
    obtain ⟨c, hcq⟩ : ∃ c, c = cmpJ js[p] x := ⟨_, rfl⟩
    have HQ := Lib.hid hcq
    have HH := Lib.hid (show hit js x = (c == 0) by unfold hit; rw [HP.out, List.getElem?_eq_getElem hlt', Option.map_some, <- hcq]; by_cases h : c = 0 <;> simp [h])
    have hs1 : decide ((p : Int) < (js.length : Int)) = true := decide_eq_true (by omega)
    have hs2 : (p : Int) < (js.length : Int) := by omega
    clear hc hcq
    go_wp2_with fail
    have HE := Lib.hid (show Ext w wr from fun a v h => Ext.below (HBX.out ▸ HB.out) _ _ h)
    refine region_v rfl (by kernel_rfl) (fun (i : Nat) (v : Value) (W : World) => match i with | 0 => v = .int .i64 p | 1 => v = .int .i64 p | 2 => v = .int .i64 js.length | 3 => v = .bool true | 4 => v = .bool true | 5 => v = .func (.func 147) #[] #[] | 6 => v = .slice (some ⟨b, off, none⟩) js.length cap | 7 => v = .int .i64 p | 8 => v = .pointer (some ⟨b, off + p * 7, none⟩) | 9 => v = jobV js[p] | 10 => v = jobV x | 11 => v = .int .i64 c | 12 => v = .bool (c == 0) | 13 => v = .bool (c == 0) | 14 => v = .int .i64 p | 15 => v = .bool (c == 0) | _ => True) ?_ ?_ ?_
    ·intro i v W W' hb h
     (try dsimp only at h |-)
     split at h <;> first | exact h | trivial
    ·simp (config := { maxSteps := 4000000 }) only [List.map, putAll, Act.put, VE, List.setIfInBounds_toArray, List.set_cons_succ, List.set_cons_zero, Nat.reduceAdd]
     refine ⟨?_, ?_, ?_, ?_, ?_, ?_, ?_, ?_, ?_, ?_, ?_, ?_, ?_, ?_, ?_, ?_, trivial⟩
     all_goals intro vs W hB hr KK hK
     ·rw [if_pos (by simp [Region.wanted])]
      have HK := Lib.hid hK
      clear hK hr
      go_simp
      exact HK.out _ W (Below.refl _ _) rfl
     ·rw [if_pos (by simp [Region.wanted])]
      have HK := Lib.hid hK
      clear hK hr
      go_simp
      exact HK.out _ W (Below.refl _ _) rfl
     ·rw [if_pos (by simp [Region.wanted])]
      have HK := Lib.hid hK
      clear hK hr
      go_simp
      exact HK.out _ W (Below.refl _ _) rfl
     ·have r1 : vs 1 = .int .i64 p := hr 1 rfl
      have r2 : vs 2 = .int .i64 js.length := hr 2 rfl
      rw [if_pos (by simp [Region.wanted])]
      simp only [r1, r2] at hK |-
      have HK := Lib.hid hK
      clear hK hr
      go_simp
      exact HK.out _ W (Below.refl _ _) rfl
     ·have r3 : vs 3 = .bool true := hr 3 rfl
      rw [if_pos (by simp [Region.wanted])]
      simp only [r3] at hK |-
      have HK := Lib.hid hK
      clear hK hr
      go_simp
      exact HK.out _ W (Below.refl _ _) rfl
     ·have r4 : vs 4 = .bool true := hr 4 rfl
      rw [if_pos (by simp [Region.wanted, yielded, r4])]
      simp only [r4] at hK |-
      have HK := Lib.hid hK
      clear hK hr
      go_simp
      exact HK.out _ W (Below.refl _ _) rfl
     ·have r4 : vs 4 = .bool true := hr 4 rfl
      rw [if_pos (by simp [Region.wanted, yielded, r4])]
      simp only [r4] at hK |-
      have HK := Lib.hid hK
      clear hK hr
      go_simp
      exact HK.out _ W (Below.refl _ _) rfl
     ·have r4 : vs 4 = .bool true := hr 4 rfl
      rw [if_pos (by simp [Region.wanted, yielded, r4])]
      simp only [r4] at hK |-
      have HK := Lib.hid hK
      clear hK hr
      go_simp
      exact HK.out _ W (Below.refl _ _) rfl
     ·have r4 : vs 4 = .bool true := hr 4 rfl
      have r6 : vs 6 = .slice (some ⟨b, off, none⟩) js.length cap := hr 6 rfl
      have r7 : vs 7 = .int .i64 p := hr 7 rfl
      rw [if_pos (by simp [Region.wanted, yielded, r4])]
      simp only [r4, r6, r7] at hK |-
      have HK := Lib.hid hK
      clear hK hr
      go_simp
      exact HK.out _ W (Below.refl _ _) rfl
     ·have r4 : vs 4 = .bool true := hr 4 rfl
      have r8 : vs 8 = .pointer (some ⟨b, off + p * 7, none⟩) := hr 8 rfl
      rw [if_pos (by simp [Region.wanted, yielded, r4])]
      obtain ⟨y0, y1, y2, y3, y4, y5, y6⟩ := HC.out.ext (HE.out.trans (Ext.below hB))
      unfold IntAt at y0 y1 y2 y3 y4 y5 y6
      simp only [r4, r8] at hK |-
      have HK := Lib.hid hK
      clear hK hr
      go_simp
      exact HK.out _ W (Below.refl _ _) rfl
     ·have r4 : vs 4 = .bool true := hr 4 rfl
      rw [if_pos (by simp [Region.wanted, yielded, r4])]
      obtain ⟨x0, x1, x2, x3, x4, x5, x6⟩ := HY.out.ext (Ext.below hB)
      unfold IntAt at x0 x1 x2 x3 x4 x5 x6
      simp only [r4] at hK |-
      have HK := Lib.hid hK
      clear hK hr
      go_simp
      exact HK.out _ W (Below.refl _ _) rfl
     ·have r4 : vs 4 = .bool true := hr 4 rfl
      have r5 : vs 5 = .func (.func 147) #[] #[] := hr 5 rfl
      have r9 : vs 9 = jobV js[p] := hr 9 rfl
      have r10 : vs 10 = jobV x := hr 10 rfl
      rw [if_pos (by simp [Region.wanted, yielded, r4])]
      simp only [r4, r5, r9, r10] at hK |-
      have HK := Lib.hid hK
      have HB := Lib.hid hB
      clear hK hr hB
      go_simp
      refine (compare_any js[p] x _).mono ?_
      rw [<- HQ.out]
      rintro e w5 ⟨rfl, hb5⟩
      exact HK.out _ w5 hb5 rfl
     ·have r4 : vs 4 = .bool true := hr 4 rfl
      have r11 : vs 11 = .int .i64 c := hr 11 rfl
      rw [if_pos (by simp [Region.wanted, yielded, r4])]
      simp only [r4, r11] at hK |-
      have HK := Lib.hid hK
      clear hK hr
      go_simp
      exact HK.out _ W (Below.refl _ _) rfl
     ·have r4 : vs 4 = .bool true := hr 4 rfl
      have r12 : vs 12 = .bool (c == 0) := hr 12 rfl
      rw [if_pos (by simp [Region.wanted])]
      simp only [r4, r12] at hK |-
      have HK := Lib.hid hK
      clear hK hr
      go_simp
      exact HK.out _ W (Below.refl _ _) rfl
     ·have r0 : vs 0 = .int .i64 p := hr 0 rfl
      rw [if_pos (by simp [Region.wanted])]
      simp only [r0] at hK |-
      have HK := Lib.hid hK
      clear hK hr
      go_simp
      exact HK.out _ W (Below.refl _ _) rfl
     ·have r13 : vs 13 = .bool (c == 0) := hr 13 rfl
      rw [if_pos (by simp [Region.wanted])]
      simp only [r13] at hK |-
      have HK := Lib.hid hK
      clear hK hr
      go_simp
      exact HK.out _ W (Below.refl _ _) rfl
    ·intro vs W hB hV
     simp only [List.map, putAll, Act.put, List.setIfInBounds_toArray, List.set_cons_succ, List.set_cons_zero, Nat.reduceAdd]
     have r0 : vs 0 = .int .i64 p := hV 0 (by simp)
     have r1 : vs 1 = .int .i64 p := hV 1 (by simp)
     have r2 : vs 2 = .int .i64 js.length := hV 2 (by simp)
     have r3 : vs 3 = .bool true := hV 3 (by simp)
     have r4 : vs 4 = .bool true := hV 4 (by simp)
     have r5 : vs 5 = .func (.func 147) #[] #[] := hV 5 (by simp)
     have r6 : vs 6 = .slice (some ⟨b, off, none⟩) js.length cap := hV 6 (by simp)
     have r7 : vs 7 = .int .i64 p := hV 7 (by simp)
     have r8 : vs 8 = .pointer (some ⟨b, off + p * 7, none⟩) := hV 8 (by simp)
     have r9 : vs 9 = jobV js[p] := hV 9 (by simp)
     have r10 : vs 10 = jobV x := hV 10 (by simp)
     have r11 : vs 11 = .int .i64 c := hV 11 (by simp)
     have r12 : vs 12 = .bool (c == 0) := hV 12 (by simp)
     have r13 : vs 13 = .bool (c == 0) := hV 13 (by simp)
     have r14 : vs 14 = .int .i64 p := hV 14 (by simp)
     have r15 : vs 15 = .bool (c == 0) := hV 15 (by simp)
     simp only [r0, r1, r2, r3, r4, r5, r6, r7, r8, r9, r10, r11, r12, r13, r14, r15]
     clear r0 r1 r2 r3 r4 r5 r6 r7 r8 r9 r10 r11 r12 r13 r14 r15
     have HB5 := Lib.hid (HB.out.trans (hB.mono (HBX.out ▸ HB.out.size)))
     clear hB hV
     go_wp2_with fail
     go_ret2
     exact ⟨by rw [HP.out, HH.out]; rfl, HBX.out ▸ HB5.out⟩
   ·obtain rfl : p = js.length := by omega
    have HH := Lib.hid (show hit js x = false by unfold hit; rw [HP.out]; simp)
    have hs1 : decide ((js.length : Int) < (js.length : Int)) = false := decide_eq_false (by omega)
    go_wp2_with fail
    go_quiet (fail)
    go_wp2_with fail
    go_ret2
    exact ⟨by rw [HP.out, HH.out]; rfl, HBX.out ▸ below_drewN HB.out _⟩
end Go.Proofs.YtooeeiiiflfckaaGreat
/- ready.Put. -/
namespace Go.Proofs.YtooeeiiiflfckaaGreat
open Go.RowKit
set_option maxRecDepth 100000 in
set_option maxHeartbeats 400000 in
theorem cloneJob_raw (v : Value) (n : Nat) (w : World) (a : Option Addr) (cap : Nat) (news : List Value) (hv : v = .slice a n cap) (hsrc : Src w v n news) (hl : news.length = n * 7) (h1 : ∀ u ∈ news, u.oneCell' = true) (h2 : n * 56 <= 140737488351232) (h3 : n <= cap) (h4 : cap <= maxLen) :
  Calls Tryz.prog 83 #[v] w fun e w' => ∃ v', e = .returned v' /\ w'.ownsRow w.heap.size 124 7 v' n news /\ Below w.heap.size w w' := by
 subst hv
 have hrun := fun W => Lib.run_eql_slice_nil (P := Tryz.prog) W 72 124 a n cap 0 0 Tryz.underlying72
 rcases a with _ | ad
 ·have hn : n = 0 /\ news = [] := by
   rcases hsrc with ⟨c, -, h, h'⟩ | ⟨ad, c, h, -⟩
   ·exact ⟨h, h'⟩
   ·injection h with h; cases h
  obtain ⟨rfl, rfl⟩ := hn
  clear hsrc
  go_enter Tryz.func83, Tryz.ntmps83
  go_wp2_with fail
  go_ret
  exact ⟨_, rfl, World.ownsRow_nil _ _ _ _, Below.refl _ _⟩
 ·have hsrc2 : Src (w.alloc (.cells #[] 124)) (.slice (some ad) n cap) n news := by
   rcases hsrc with ⟨c, h, -⟩ | ⟨ad', c, h, hc⟩
   ·injection h with h; cases h
   ·injection h with h h' h''
    injection h with h
    subst h; subst h''
    exact .inr ⟨_, _, rfl, fun j u hu => Ext.alloc _ _ _ _ (hc j u hu)⟩
  have HS := Lib.hid hsrc2
  clear hsrc hsrc2
  have HL := Lib.hid (And.intro hl h1)
  clear hl h1
  go_enter Tryz.func83, Tryz.ntmps83
  go_wp2_with (at_builtin; refine wpList_onto _ rfl (.tmp 5) (.tmp 6) 72 rfl w.heap.size 124 _ 7 56 Tryz.underlying72 infoJob rfl (by decide) _ 0 [] rfl (own_lit w _ _) n news HS.out HL.out.1 HL.out.2 (by simp only [maxLen] at h4 |-; omega) (by omega) (by simp) ?_)
  intro v' w' hown hg
  have hown' : w'.ownsRow w.heap.size 124 7 v' n news := by simpa using hown
  have hb : Below w.heap.size w w' := (balloc w (.cells #[] 124)).grown hg (by simp) (fun k hk => by simp [Value.ownBlock] at hk; omega)
  have HB := Lib.hid (And.intro hown' hb)
  obtain ⟨a', c', rfl⟩ := own_shape hown'
  clear hown hown' hb hg
  go_wp2_with fail
  go_ret
  exact ⟨_, rfl, HB.out.1, HB.out.2⟩
theorem cloneJob_any (v : Value) (xs : List Job) (w : World) (hv : JobsV w v xs) :
  Calls Tryz.prog 83 #[v] w fun e w' => ∃ v', e = .returned v' /\ JobRow w' w.heap.size v' xs /\ Below w.heap.size w w' := by
 have hs := flatJob.src hv
 obtain ⟨a, cap, hv1, h2, h3, h4, -⟩ := hv
 exact cloneJob_raw v xs.length w a cap _ hv1 hs (flat_len _ _ flatJob.len xs) (flat_one flatJob xs) h2 h3 h4
theorem ahead_trans {a b c : Job} (h1 : ahead a b = true) (h2 : ahead b c = true) : ahead a c = true := by
 unfold ahead at *
 simp only [decide_eq_true_eq] at *
 omega
theorem jobsMay_iff (js : List Job) : jobsMay js = true ↔ (∀ i, i < js.length -> okAt js i = true) /\ js.length <= 16 := by
 unfold jobsMay
 simp [List.all_eq_true]
theorem jobsMay_next {js : List Job} (h : jobsMay js = true) {i : Nat} (hi : i + 1 < js.length) : ahead js[i] js[i + 1] = true := by
 have := ((jobsMay_iff js).1 h).1 (i + 1) hi
 unfold okAt at this
 rw [getD_at hi, Nat.add_sub_cancel, getD_at (show i < js.length by omega)] at this
 simpa using (Bool.and_eq_true_iff.1 this).2
theorem jobsMay_lt {js : List Job} (h : jobsMay js = true) : ∀ (d i : Nat) (hd : i + d + 1 < js.length), ahead (js[i]'(by omega)) js[i + d + 1] = true
 | 0, i, hd => jobsMay_next h hd
 | d + 1, i, hd => ahead_trans (jobsMay_lt h d i (by omega)) (jobsMay_next h (i := i + d + 1) hd)
theorem jobsMay_down {js : List Job} (h : jobsMay js = true) (x : Job) : ∀ a b (hb : b < js.length) (hab : a <= b), ahead js[b] x = true -> ahead (js[a]'(by omega)) x = true := by
 intro a b hb hab hx
 by_cases he : a = b
 ·subst he; exact hx
 ·obtain ⟨d, rfl⟩ : ∃ d, b = a + d + 1 := ⟨b - a - 1, by omega⟩
  exact ahead_trans (jobsMay_lt h d a hb) hx
set_option maxRecDepth 100000 in
set_option maxHeartbeats 400000 in
theorem place_any (rb : Nat) (v : Value) (js : List Job) (x : Job) (w : World) (hr : w.cell? ⟨rb, 0, none⟩ = some v) (hv : JobsV w v js) (hm : jobsMay js = true) :
  Calls Tryz.prog 136 #[.pointer (some ⟨rb, 0, none⟩), jobV x] w fun e w' => e = .returned (.tuple #[.int .i64 (pos js x), .bool (hit js x)]) /\ Below w.heap.size w w' := by
 have hl : js.length <= 1000000 := by have := ((jobsMay_iff js).1 hm).2; omega
 have hb0 := balloc w (.cells #[.int .i64 x.task, .int .i64 x.seq, .int .i64 x.prio, .int .i64 x.release, .int .i64 x.deadline, .int .i64 x.demand, .int .i64 x.used] 124)
 have hx0 : ∀ j u, (jobCells x)[j]? = some u -> (w.alloc (.cells #[.int .i64 x.task, .int .i64 x.seq, .int .i64 x.prio, .int .i64 x.release, .int .i64 x.deadline, .int .i64 x.demand, .int .i64 x.used] 124)).cell? ⟨w.heap.size, j, none⟩ = some u := fun j u hu => box_at j (by simpa [jobCells] using hu)
 have HX := Lib.hid (And.intro hb0 (And.intro hx0 (And.intro hr (And.intro hv (jobsMay_down hm x)))))
 obtain ⟨a, cap, rfl, -⟩ := hv
 clear hr hm hb0 hx0
 go_enter Tryz.func136, Tryz.ntmps136
 go_wp2_with fail
 obtain ⟨wz, hwz⟩ : ∃ wz, wz = w.alloc (.cells #[.int .i64 x.task, .int .i64 x.seq, .int .i64 x.prio, .int .i64 x.release, .int .i64 x.deadline, .int .i64 x.demand, .int .i64 x.used] 124) := ⟨_, rfl⟩
 obtain ⟨bx, hbx⟩ : ∃ bx, bx = w.heap.size := ⟨_, rfl⟩
 obtain ⟨hb0, hx0, hr, hv, hs⟩ := HX.out
 have r0 := Ext.below hb0 _ _ hr
 have HV := Lib.hid (JobsV.ext (Ext.below hb0) hv)
 have HB := Lib.hid hb0
 have HS := Lib.hid hs
 rw [<- hwz] at r0 HV HB hx0 |-
 rw [<- hbx] at hx0 |-
 have hD : Below wz.heap.size wz wz.drew := below_drew (Below.refl _ _)
 have hS0 : (fun w' : World => w'.cell? ⟨rb, 0, none⟩ = some (.slice a js.length cap) /\ w'.cell? ⟨bx, 0, none⟩ = some (.int .i64 x.task) /\ w'.cell? ⟨bx, 1, none⟩ = some (.int .i64 x.seq) /\ w'.cell? ⟨bx, 2, none⟩ = some (.int .i64 x.prio) /\ w'.cell? ⟨bx, 3, none⟩ = some (.int .i64 x.release) /\ w'.cell? ⟨bx, 4, none⟩ = some (.int .i64 x.deadline) /\ w'.cell? ⟨bx, 5, none⟩ = some (.int .i64 x.demand) /\ w'.cell? ⟨bx, 6, none⟩ = some (.int .i64 x.used) /\ Below wz.heap.size wz w') wz.drew := ⟨r0, hx0 0 _ rfl, hx0 1 _ rfl, hx0 2 _ rfl, hx0 3 _ rfl, hx0 4 _ rfl, hx0 5 _ rfl, hx0 6 _ rfl, hD⟩
 have kS : ∀ W W' : World, (fun w' : World => w'.cell? ⟨rb, 0, none⟩ = some (.slice a js.length cap) /\ w'.cell? ⟨bx, 0, none⟩ = some (.int .i64 x.task) /\ w'.cell? ⟨bx, 1, none⟩ = some (.int .i64 x.seq) /\ w'.cell? ⟨bx, 2, none⟩ = some (.int .i64 x.prio) /\ w'.cell? ⟨bx, 3, none⟩ = some (.int .i64 x.release) /\ w'.cell? ⟨bx, 4, none⟩ = some (.int .i64 x.deadline) /\ w'.cell? ⟨bx, 5, none⟩ = some (.int .i64 x.demand) /\ w'.cell? ⟨bx, 6, none⟩ = some (.int .i64 x.used) /\ Below wz.heap.size wz w') W -> Below W.heap.size W W' -> (fun w' : World => w'.cell? ⟨rb, 0, none⟩ = some (.slice a js.length cap) /\ w'.cell? ⟨bx, 0, none⟩ = some (.int .i64 x.task) /\ w'.cell? ⟨bx, 1, none⟩ = some (.int .i64 x.seq) /\ w'.cell? ⟨bx, 2, none⟩ = some (.int .i64 x.prio) /\ w'.cell? ⟨bx, 3, none⟩ = some (.int .i64 x.release) /\ w'.cell? ⟨bx, 4, none⟩ = some (.int .i64 x.deadline) /\ w'.cell? ⟨bx, 5, none⟩ = some (.int .i64 x.demand) /\ w'.cell? ⟨bx, 6, none⟩ = some (.int .i64 x.used) /\ Below wz.heap.size wz w') W' := by
  rintro W W' ⟨b0, b1, b2, b3, b4, b5, b6, b7, hB⟩ hb
  exact ⟨Ext.below hb _ _ b0, Ext.below hb _ _ b1, Ext.below hb _ _ b2, Ext.below hb _ _ b3, Ext.below hb _ _ b4, Ext.below hb _ _ b5, Ext.below hb _ _ b6, Ext.below hb _ _ b7, bthen hB hb⟩
 clear hwz hbx hb0 hx0 hr hv hs r0 HX
 go_region_held3 (fun w' : World => w'.cell? ⟨rb, 0, none⟩ = some (.slice a js.length cap) /\ w'.cell? ⟨bx, 0, none⟩ = some (.int .i64 x.task) /\ w'.cell? ⟨bx, 1, none⟩ = some (.int .i64 x.seq) /\ w'.cell? ⟨bx, 2, none⟩ = some (.int .i64 x.prio) /\ w'.cell? ⟨bx, 3, none⟩ = some (.int .i64 x.release) /\ w'.cell? ⟨bx, 4, none⟩ = some (.int .i64 x.deadline) /\ w'.cell? ⟨bx, 5, none⟩ = some (.int .i64 x.demand) /\ w'.cell? ⟨bx, 6, none⟩ = some (.int .i64 x.used) /\ Below wz.heap.size wz w') (first | exact hS0 | exact kS _ _ hS0 hb1) ((go_at_call 148; refine (bsearch_any _ js x _ (HV.out.ext (Ext.below hD)) HS.out hl).mono ?_; rintro e w1 ⟨rfl, hb1⟩))
 have HB1 := Lib.hid (HB.out.trans ((bthen hD hb1).mono HB.out.size))
 clear hS0 kS hb1 hD
 go_wp2_with fail
 go_ret2
 exact ⟨rfl, HB1.out⟩
end Go.Proofs.YtooeeiiiflfckaaGreat
/- ready.Put. -/
namespace Go.Proofs.YtooeeiiiflfckaaGreat
open Go.RowKit
def putE (js : List Job) (x : Job) : Int := if jobsMay js = false ∨ jobMay x = false then 1200 else if hit js x = true then 1200 else if js.length = 16 then 1201 else 0
def putL (js : List Job) (x : Job) : List Job := js.take (pos js x) ++ [x] ++ js.drop (pos js x)
theorem pos_le (js : List Job) (x : Job) : pos js x <= js.length := by
 unfold pos
 exact (List.takeWhile_sublist _).length_le
theorem own_in {w : World} {b : Nat} {e : TypeId} {size n : Nat} {v : Value} {xs : List Value} (h : w.ownsRow b e size v n xs) {g : Nat} (hg : v.ownBlock = some g) : b <= g /\ g < w.heap.size := h.lt g hg
structure PtInv (wR : World) (v : Value) (js : List Job) (x : Job) (L : Nat -> Bool) (vs : Nat -> Value) (W : World) : Prop where
 below : Below wR.heap.size wR W
 i0 : L 0 = true -> vs 0 = v
 i1 : L 1 = true -> L 5 = false -> JobRow W wR.heap.size (vs 1) js
 i2 : L 2 = true -> vs 2 = .int .i64 (pos js x)
 i3 : L 3 = true -> vs 3 = jobV x
 i4 : L 4 = true -> L 5 = false -> ∃ g, vs 4 = .slice (some ⟨g, 0, none⟩) 1 1 /\ W.heap[g]? = some (.cells (jobCells x).toArray 124 (0, 0))
 ne : L 1 = true -> L 4 = true -> (vs 1).ownBlock ≠ (vs 4).ownBlock
 i5 : L 5 = true -> JobRow W wR.heap.size (vs 5) (putL js x)
 i6 : L 6 = true -> vs 6 = vs 5
 i7 : L 7 = true -> vs 7 = .int .i64 0
theorem PtInv.keep {wR : World} {v : Value} {js : List Job} {x : Job} {L : Nat -> Bool} {vs : Nat -> Value} {W W' : World} (h : PtInv wR v js x L vs W) (hb : Below W.heap.size W W') : PtInv wR v js x L vs W' :=
 ⟨bthen h.below hb, h.i0, fun a b => Below.kept (h.i1 a b) hb, h.i2, h.i3, fun a b => by obtain ⟨g, h1, h2⟩ := h.i4 a b; exact ⟨g, h1, keep_at h2 hb⟩, h.ne, fun a => Below.kept (h.i5 a) hb, h.i6, h.i7⟩
set_option maxRecDepth 100000 in
set_option maxHeartbeats 2000000 in
theorem put_any (v : Value) (js : List Job) (x : Job) (w : World) (hv : JobsV w v js) :
  Calls Tryz.prog 109 #[v, jobV x] w fun e w' => ∃ v', e = .returned (.tuple #[v', .int .i64 (putE js x)]) /\ (putE js x ≠ 0 -> v' = .slice none 0 0) /\ (putE js x = 0 -> JobRow w' w.heap.size v' (putL js x)) /\ Below w.heap.size w w' := by
 obtain ⟨a, cap, rfl, -⟩ := id hv
 have hb0 := bthen (balloc w (.cells #[.int .i64 x.task, .int .i64 x.seq, .int .i64 x.prio, .int .i64 x.release, .int .i64 x.deadline, .int .i64 x.demand, .int .i64 x.used] 124)) (balloc _ (.cells #[.slice a js.length cap, .int .i64 x.task, .int .i64 x.seq, .int .i64 x.prio, .int .i64 x.release, .int .i64 x.deadline, .int .i64 x.demand, .int .i64 x.used] 250))
 have HV := Lib.hid hv
 have HB0 := Lib.hid hb0
 clear hv hb0
 go_enter Tryz.func109, Tryz.ntmps109
 go_wp2_with fail
 obtain ⟨wz, hwz⟩ : ∃ wz, wz = (w.alloc (.cells #[.int .i64 x.task, .int .i64 x.seq, .int .i64 x.prio, .int .i64 x.release, .int .i64 x.deadline, .int .i64 x.demand, .int .i64 x.used] 124)).alloc (.cells #[.slice a js.length cap, .int .i64 x.task, .int .i64 x.seq, .int .i64 x.prio, .int .i64 x.release, .int .i64 x.deadline, .int .i64 x.demand, .int .i64 x.used] 250) := ⟨_, rfl⟩
 obtain ⟨bx, hbx⟩ : ∃ bx, bx = w.heap.size := ⟨_, rfl⟩
 have hx1 : wz.heap[bx]? = some (.cells #[.int .i64 x.task, .int .i64 x.seq, .int .i64 x.prio, .int .i64 x.release, .int .i64 x.deadline, .int .i64 x.demand, .int .i64 x.used] 124 (0, 0)) := by rw [hwz, hbx]; exact keep_at (blk_new w _) (balloc _ _)
 have hx2 : wz.heap[bx + 1]? = some (.cells #[.slice a js.length cap, .int .i64 x.task, .int .i64 x.seq, .int .i64 x.prio, .int .i64 x.release, .int .i64 x.deadline, .int .i64 x.demand, .int .i64 x.used] 250 (0, 0)) := by rw [hwz, hbx]; have h := blk_new (w.alloc (.cells #[.int .i64 x.task, .int .i64 x.seq, .int .i64 x.prio, .int .i64 x.release, .int .i64 x.deadline, .int .i64 x.demand, .int .i64 x.used] 124)) (.cells #[.slice a js.length cap, .int .i64 x.task, .int .i64 x.seq, .int .i64 x.prio, .int .i64 x.release, .int .i64 x.deadline, .int .i64 x.demand, .int .i64 x.used] 250); rwa [show (w.alloc (.cells #[.int .i64 x.task, .int .i64 x.seq, .int .i64 x.prio, .int .i64 x.release, .int .i64 x.deadline, .int .i64 x.demand, .int .i64 x.used] 124)).heap.size = w.heap.size + 1 by simp] at h
 have HVz := Lib.hid (HV.out.ext (Ext.below HB0.out))
 rw [<- hwz] at HVz HB0 |-
 rw [<- hbx]
 have HX := Lib.hid (And.intro hx1 hx2)
 have HBX := Lib.hid hbx
 clear hwz hbx hx1 hx2
 by_cases hm : jobsMay js = true
 ·have HM := Lib.hid hm
  clear hm
  refine (rowMay_any (bx + 1) _ js _ (BlockIs.of HX.out.2 0 _ rfl) HVz.out).mono ?_
  rw [HM.out]
  rintro e w1 ⟨rfl, hb1⟩
  have hx1 := keep_at HX.out.1 hb1
  have hx2 := keep_at HX.out.2 hb1
  have HX1 := Lib.hid (And.intro hx1 hx2)
  have HV1 := Lib.hid (HVz.out.ext (Ext.below hb1))
  have HB1 := Lib.hid (bthen HB0.out hb1)
  have HJ1 := Lib.hid (show JobAt w1 (bx + 1) 1 x from ⟨BlockIs.of hx2 1 _ rfl, BlockIs.of hx2 2 _ rfl, BlockIs.of hx2 3 _ rfl, BlockIs.of hx2 4 _ rfl, BlockIs.of hx2 5 _ rfl, BlockIs.of hx2 6 _ rfl, BlockIs.of hx2 7 _ rfl⟩)
  clear hb1 hx1 hx2
  go_wp2_with fail
  refine (jobB_any (bx + 1) 1 x _ HJ1.out).mono ?_
  by_cases hj : jobMay x = true
  ·rw [hj]
   rintro e w2 ⟨rfl, hb2⟩
   have HJ := Lib.hid hj
   have hx1 := keep_at HX1.out.1 hb2
   have hx2 := keep_at HX1.out.2 hb2
   have HV2 := Lib.hid (HV1.out.ext (Ext.below hb2))
   have HB2 := Lib.hid (bthen HB1.out hb2)
   have hD : Below w2.heap.size w2 w2.drew := below_drew (Below.refl _ _)
   have hS0 : (fun w' : World => w'.cell? ⟨bx, 0, none⟩ = some (.int .i64 x.task) /\ w'.cell? ⟨bx, 1, none⟩ = some (.int .i64 x.seq) /\ w'.cell? ⟨bx, 2, none⟩ = some (.int .i64 x.prio) /\ w'.cell? ⟨bx, 3, none⟩ = some (.int .i64 x.release) /\ w'.cell? ⟨bx, 4, none⟩ = some (.int .i64 x.deadline) /\ w'.cell? ⟨bx, 5, none⟩ = some (.int .i64 x.demand) /\ w'.cell? ⟨bx, 6, none⟩ = some (.int .i64 x.used) /\ w'.cell? ⟨bx + 1, 0, none⟩ = some (.slice a js.length cap) /\ Below w2.heap.size w2 w') w2.drew := ⟨BlockIs.of hx1 0 _ rfl, BlockIs.of hx1 1 _ rfl, BlockIs.of hx1 2 _ rfl, BlockIs.of hx1 3 _ rfl, BlockIs.of hx1 4 _ rfl, BlockIs.of hx1 5 _ rfl, BlockIs.of hx1 6 _ rfl, BlockIs.of hx2 0 _ rfl, hD⟩
   have kS : ∀ W W' : World, (fun w' : World => w'.cell? ⟨bx, 0, none⟩ = some (.int .i64 x.task) /\ w'.cell? ⟨bx, 1, none⟩ = some (.int .i64 x.seq) /\ w'.cell? ⟨bx, 2, none⟩ = some (.int .i64 x.prio) /\ w'.cell? ⟨bx, 3, none⟩ = some (.int .i64 x.release) /\ w'.cell? ⟨bx, 4, none⟩ = some (.int .i64 x.deadline) /\ w'.cell? ⟨bx, 5, none⟩ = some (.int .i64 x.demand) /\ w'.cell? ⟨bx, 6, none⟩ = some (.int .i64 x.used) /\ w'.cell? ⟨bx + 1, 0, none⟩ = some (.slice a js.length cap) /\ Below w2.heap.size w2 w') W -> Below W.heap.size W W' -> (fun w' : World => w'.cell? ⟨bx, 0, none⟩ = some (.int .i64 x.task) /\ w'.cell? ⟨bx, 1, none⟩ = some (.int .i64 x.seq) /\ w'.cell? ⟨bx, 2, none⟩ = some (.int .i64 x.prio) /\ w'.cell? ⟨bx, 3, none⟩ = some (.int .i64 x.release) /\ w'.cell? ⟨bx, 4, none⟩ = some (.int .i64 x.deadline) /\ w'.cell? ⟨bx, 5, none⟩ = some (.int .i64 x.demand) /\ w'.cell? ⟨bx, 6, none⟩ = some (.int .i64 x.used) /\ w'.cell? ⟨bx + 1, 0, none⟩ = some (.slice a js.length cap) /\ Below w2.heap.size w2 w') W' := by
    rintro W W' ⟨b0, b1, b2, b3, b4, b5, b6, b7, hB⟩ hb
    exact ⟨Ext.below hb _ _ b0, Ext.below hb _ _ b1, Ext.below hb _ _ b2, Ext.below hb _ _ b3, Ext.below hb _ _ b4, Ext.below hb _ _ b5, Ext.below hb _ _ b6, Ext.below hb _ _ b7, bthen hB hb⟩
   have HX2 := Lib.hid (And.intro hx1 hx2)
   clear hj hb2 hx1 hx2
   go_wp2_with fail
   go_region_held3 (fun w' : World => w'.cell? ⟨bx, 0, none⟩ = some (.int .i64 x.task) /\ w'.cell? ⟨bx, 1, none⟩ = some (.int .i64 x.seq) /\ w'.cell? ⟨bx, 2, none⟩ = some (.int .i64 x.prio) /\ w'.cell? ⟨bx, 3, none⟩ = some (.int .i64 x.release) /\ w'.cell? ⟨bx, 4, none⟩ = some (.int .i64 x.deadline) /\ w'.cell? ⟨bx, 5, none⟩ = some (.int .i64 x.demand) /\ w'.cell? ⟨bx, 6, none⟩ = some (.int .i64 x.used) /\ w'.cell? ⟨bx + 1, 0, none⟩ = some (.slice a js.length cap) /\ Below w2.heap.size w2 w') (first | exact hS0 | exact kS _ _ hS0 hb3) ((go_at_call 136; refine (place_any (bx + 1) (.slice a js.length cap) js x _ (Ext.below hD _ _ (BlockIs.of HX2.out.2 0 _ rfl)) (HV2.out.ext (Ext.below hD)) HM.out).mono ?_; rintro e w3 ⟨rfl, hb3⟩))
   have HB3 := Lib.hid (bthen HB2.out (bthen hD hb3))
   have HV3 := Lib.hid (HV2.out.ext (Ext.below (bthen hD hb3)))
   have HX3 := Lib.hid (keep_at HX2.out.1 (bthen hD hb3))
   clear hS0 kS hb3 hD
   by_cases hh : hit js x = true
   ·have HE := Lib.hid (show putE js x = 1200 by unfold putE; rw [if_neg (by rw [HM.out, HJ.out]; simp), if_pos hh])
    rw [hh]
    clear hh
    go_wp2_with fail
    go_ret2
    exact ⟨_, (by rw [HE.out]; rfl), (fun _ => rfl), (fun h => absurd (HE.out.symm.trans h) (by decide)), HB3.out⟩
   ·have HH := Lib.hid hh
    have hh : hit js x = false := by simpa using hh
    rw [hh]
    clear hh
    by_cases h16 : js.length = 16
    ·have HE := Lib.hid (show putE js x = 1201 by unfold putE; rw [if_neg (by rw [HM.out, HJ.out]; simp), if_neg HH.out, if_pos h16])
     have h16' : ((js.length : Int) == 16) = true := by simp [h16]
     clear h16
     go_wp2_with fail
     go_ret2
     exact ⟨_, (by rw [HE.out]; rfl), (fun _ => rfl), (fun h => absurd (HE.out.symm.trans h) (by decide)), HB3.out⟩
    ·have HE := Lib.hid (show putE js x = 0 by unfold putE; rw [if_neg (by rw [HM.out, HJ.out]; simp), if_neg HH.out, if_neg h16])
     have h16' : ((js.length : Int) == 16) = false := by simp; omega
     clear h16
     go_wp2_with fail
     refine region_inv rfl (by kernel_rfl) (PtInv w3 (.slice a js.length cap) js x) (fun vs => ⟨below_drew (Below.refl _ _), by simp, by simp, by simp, by simp, by simp, by simp, by simp, by simp, by simp⟩) ?_ ?_
     ·simp only [List.map, putAll, Act.put, InvE, List.setIfInBounds_toArray, List.set_cons_succ, List.set_cons_zero, Nat.reduceAdd]
      refine ⟨?_, ?_, ?_, ?_, ?_, ?_, ?_, ?_, trivial⟩
      all_goals
       intro L vs W hI hi hn hcl K hK
       rw [if_pos (by simp [Region.wanted])]
      ·have HK := Lib.hid (fun v h => hK v W ⟨hI.below, fun _ => h, hI.i1, hI.i2, hI.i3, hI.i4, hI.ne, hI.i5, hI.i6, hI.i7⟩)
       clear hK hI hn hcl
       go_simp
       exact HK.out _ rfl
      ·have r0 := hI.i0 (hn 0 rfl)
       simp only [r0] at hK |-
       have HK := Lib.hid hK
       have HI := Lib.hid hI
       have HC := Lib.hid (fun (q : L 5 = true) => (hcl 5 _ rfl q 1 rfl : L 1 = true))
       have HL := Lib.hid hi
       clear hK hI hn hcl hi
       go_simp
       go_at_call 83
       refine (cloneJob_any _ js W (HV3.out.ext (Ext.below HI.out.below))).mono ?_
       rintro e w' ⟨v', rfl, hrow, hb⟩
       have k := HI.out.keep hb
       have h5 : L 5 = false := by
        cases h : L 5
        ·rfl
        ·exact absurd (HC.out h) (by have := HL.out; first | exact Bool.eq_false_iff.1 this | (simp only [Nat.zero_add] at this; exact Bool.eq_false_iff.1 this))
       exact HK.out _ w' ⟨k.below, k.i0, fun _ _ => own_lower hrow HI.out.below.size, k.i2, k.i3, k.i4, fun _ h4 e => by
        have e : v'.ownBlock = (vs 4).ownBlock := e
        obtain ⟨g, h1, h2⟩ := HI.out.i4 h4 h5
        rw [h1] at e
        have := (show W.heap.size <= g from (own_in hrow e).1)
        have := lt_of_block h2
        omega, k.i5, k.i6, k.i7⟩
      ·have HK := Lib.hid (fun v h => hK v W ⟨hI.below, hI.i0, hI.i1, fun _ => h, hI.i3, hI.i4, hI.ne, hI.i5, hI.i6, hI.i7⟩)
       clear hK hI hn hcl
       go_simp
       exact HK.out _ rfl
      ·have hx := keep_at HX3.out hI.below
       have x0 := BlockIs.of hx 0 _ rfl
       have x1 := BlockIs.of hx 1 _ rfl
       have x2 := BlockIs.of hx 2 _ rfl
       have x3 := BlockIs.of hx 3 _ rfl
       have x4 := BlockIs.of hx 4 _ rfl
       have x5 := BlockIs.of hx 5 _ rfl
       have x6 := BlockIs.of hx 6 _ rfl
       have HK := Lib.hid (fun v h => hK v W ⟨hI.below, hI.i0, hI.i1, hI.i2, fun _ => h, hI.i4, hI.ne, hI.i5, hI.i6, hI.i7⟩)
       clear hK hI hn hcl hx
       go_simp
       exact HK.out _ rfl
      ·have r3 := hI.i3 (hn 3 rfl)
       simp only [r3] at hK |-
       have HK := Lib.hid hK
       have HI := Lib.hid hI
       have HC := Lib.hid (fun (q : L 5 = true) => (hcl 5 _ rfl q 4 rfl : L 4 = true))
       have HL := Lib.hid hi
       clear hK hI hn hcl hi
       go_simp
       have h5 : L 5 = false := by
        cases h : L 5
        ·rfl
        ·exact absurd (HC.out h) (by have := HL.out; first | exact Bool.eq_false_iff.1 this | (simp only [Nat.zero_add] at this; exact Bool.eq_false_iff.1 this))
       have k := HI.out.keep (balloc W (.cells #[.int .i64 x.task, .int .i64 x.seq, .int .i64 x.prio, .int .i64 x.release, .int .i64 x.deadline, .int .i64 x.demand, .int .i64 x.used] 124))
       exact HK.out _ _ ⟨k.below, k.i0, k.i1, k.i2, k.i3, fun _ _ => ⟨W.heap.size, rfl, blk_new _ _⟩, fun h1 _ e => by
        have e : (vs 1).ownBlock = some W.heap.size := e
        have := (own_in (HI.out.i1 h1 h5) e).2
        omega, k.i5, k.i6, k.i7⟩
      ·have h1 : L 1 = true := hn 1 rfl
       have h4 : L 4 = true := hn 4 rfl
       have h5 : L 5 = false := hi
       obtain ⟨g, e4, hg⟩ := hI.i4 h4 h5
       have r1 := hI.i1 h1 h5
       have hne := hI.ne h1 h4
       rw [e4] at hne
       have HR := Lib.hid (And.intro r1 (And.intro hg hne))
       obtain ⟨ca, cc, e1⟩ := own_shape r1
       have e2 := hI.i2 (hn 2 rfl)
       have H6 := Lib.hid (show L 6 = false by
        cases h : L 6
        ·rfl
        ·exact absurd (hcl 6 _ rfl h 5 rfl) (Bool.eq_false_iff.1 h5))
       have HE1 := Lib.hid e1
       simp only [e1, e2, e4] at hK |-
       have HK := Lib.hid hK
       have HI := Lib.hid hI
       clear hK hI hn hcl hi r1 hg hne e1 e2 e4
       go_simp
       go_at_call 137
       refine (insert_any w3.heap.size g (pos js x) (.slice ca js.length cc) js x W (HE1.out ▸ HR.out.1) HR.out.2.1 (HE1.out ▸ HR.out.2.2) (pos_le js x) (by have := ((jobsMay_iff js).1 HM.out).2; omega) HI.out.below.size).mono ?_
       rintro e w' ⟨v', rfl, hrow, hb⟩
       exact HK.out _ w' ⟨HI.out.below.trans hb, HI.out.i0, fun _ q => absurd q (by simp [updB]), HI.out.i2, HI.out.i3, fun _ q => absurd q (by simp [updB]), HI.out.ne, fun _ => hrow, fun q => absurd q (Bool.eq_false_iff.1 H6.out), HI.out.i7⟩
      ·have HK := Lib.hid (fun v h => hK v W ⟨hI.below, hI.i0, hI.i1, hI.i2, hI.i3, hI.i4, hI.ne, hI.i5, fun _ => h, hI.i7⟩)
       clear hK hI hn hcl
       go_simp
       exact HK.out _ rfl
      ·have HK := Lib.hid (fun v h => hK v W ⟨hI.below, hI.i0, hI.i1, hI.i2, hI.i3, hI.i4, hI.ne, hI.i5, hI.i6, fun _ => h⟩)
       clear hK hI hn hcl
       go_simp
       exact HK.out _ rfl
     ·intro vs W hI
      simp only [List.map, putAll, Act.put, List.setIfInBounds_toArray, List.set_cons_succ, List.set_cons_zero, Nat.reduceAdd]
      have hr := hI.i5 (by simp)
      have e6 := hI.i6 (by simp)
      have e7 := hI.i7 (by simp)
      have HB4 := Lib.hid (bthen HB3.out hI.below)
      obtain ⟨ca, cc, e5⟩ := own_shape hr
      rw [e5] at e6 hr
      simp only [e6, e7]
      have HR := Lib.hid (own_lower hr HB3.out.size)
      clear hI hr e5 e6 e7
      go_wp2_with fail
      go_ret2
      exact ⟨_, (by rw [HE.out]; rfl), (fun h => absurd HE.out h), (fun _ => HR.out), HB4.out⟩
  ·have hj : jobMay x = false := by simpa using hj
   have HE := Lib.hid (show putE js x = 1200 by unfold putE; rw [if_pos (.inr hj)])
   rw [hj]
   rintro e w2 ⟨rfl, hb2⟩
   have HB2 := Lib.hid (bthen HB1.out hb2)
   clear hb2 hj
   go_wp2_with fail
   go_ret2
   exact ⟨_, (by rw [HE.out]; rfl), (fun _ => rfl), (fun h => absurd (HE.out.symm.trans h) (by decide)), HB2.out⟩
 ·have hm : jobsMay js = false := by simpa using hm
  have HE := Lib.hid (show putE js x = 1200 by unfold putE; rw [if_pos (.inl hm)])
  have HM := Lib.hid hm
  clear hm
  refine (rowMay_any (bx + 1) _ js _ (BlockIs.of HX.out.2 0 _ rfl) HVz.out).mono ?_
  rw [HM.out]
  rintro e w1 ⟨rfl, hb1⟩
  have HB1 := Lib.hid (bthen HB0.out hb1)
  clear hb1
  go_wp2_with fail
  go_ret2
  exact ⟨_, (by rw [HE.out]; rfl), (fun _ => rfl), (fun h => absurd (HE.out.symm.trans h) (by decide)), HB1.out⟩
end Go.Proofs.YtooeeiiiflfckaaGreat
/- ready.Missed and the reference's answer. -/
namespace Go.Proofs.YtooeeiiiflfckaaGreat
open Go.RowKit
section
variable {P : Program} {w : World}
theorem append_elem_at {ops : Array Oper} {rest : List Oper} {o : Oper} {a : Act} {Q : Exit -> Act -> World -> Prop} (hgd : o.guard = none) (s x : Operand) (t : TypeId)
  (ho : o.op = .call { callee := .builtin .append, args := #[s, x], argTypes := #[t, t] })
  (base : Nat) (e : TypeId) (z : Value) (size bytes : Nat) (ht : P.underlying t = some (.slice e)) (hinfo : (P.info? e).map (fun i => (i.zero, i.size, i.bytes)) = some (some z, size, bytes)) (hzs : z.cells.size = size) (hsz : 0 < size)
  (v : Value) (n : Nat) (xs : List Value) (hs : a.eval s = v) (hown : w.ownsRow base e size v n xs)
  (cs : List Value) (B : Nat) (hB : w.heap.size = B) (hx : a.eval x = .slice (some ⟨B, 0, none⟩) 1 1) (hl : cs.length = size) (h1 : cs.all (·.oneCell') = true)
  (h63 : n + 1 <= 9223372036854775807) (hbytes : (n + 1) * bytes <= 140737488355328) (hbase : base <= w.heap.size)
  (h : ∀ v' w', w'.ownsRow base e size v' (n + 1) (xs ++ cs) -> Below base w w' -> (w.alloc (.cells cs.toArray e)).grownBy w' v.ownBlock -> (v'.ownBlock = v.ownBlock ∨ v'.ownBlock = some (w.alloc (.cells cs.toArray e)).heap.size) -> wpList P ops Q rest (a.put o.dst v') w') : wpList P ops Q (o :: rest) a (w.alloc (.cells cs.toArray e)) := by
 subst hB
 obtain ⟨i, hi, hz, hsize, hby⟩ := info_parts hinfo
 have hnew := heap_alloc_new w (.cells cs.toArray e)
 refine wpList_append_own_at (w := w.alloc (.cells cs.toArray e)) hgd s x t ho base e i z size bytes ht hi hz hsize hby hzs hsz v n xs hs (hown.alloc _) ⟨w.heap.size, 0, none⟩ 1 1 cs hx (by omega) ?_ ?_ (by unfold maxLen; omega) hbytes (by simp; omega) ?_
 ·intro j u hj
  rw [addr_add]
  unfold World.cell?
  simp only [hnew]
  simpa using hj
 ·intro u hu
  exact List.all_eq_true.1 h1 u hu
 ·intro v' w' ho' hg' _ hat
  refine h v' w' ho' ?_ hg' hat
  exact ((Below.refl base w).alloc hbase _).grown hg' (by simp; omega) (fun k hk => (hown.lt k hk).1)
end
def Apart (a b : Value) : Prop := ∀ g, a.ownBlock = some g -> b.ownBlock = some g -> False
theorem Apart.symm {a b : Value} (h : Apart a b) : Apart b a := fun g h1 h2 => h g h2 h1
theorem own_two {w : World} {b : Nat} {e : TypeId} {size n : Nat} {v : Value} {xs : List Value} (h : w.ownsRow b e size v n xs) {m : Value} (ha : Apart v m) {w' : World} (hg : w.grownBy w' m.ownBlock) : w'.ownsRow b e size v n xs := by
 refine h.kept hg ?_
 cases hv : v.ownBlock with
 | none => exact .inl rfl
 | some g => exact .inr (fun hq => ha g hv hq.symm)
theorem apart_next {w : World} {b : Nat} {e : TypeId} {size n : Nat} {v m m' : Value} {xs : List Value} (h : w.ownsRow b e size v n xs) (ha : Apart v m) (hat : m'.ownBlock = m.ownBlock ∨ ∃ q, w.heap.size <= q /\ m'.ownBlock = some q) : Apart v m' := by
 intro g h1 h2
 rcases hat with hat | ⟨q, hq, hat⟩
 ·exact ha g h1 (hat ▸ h2)
 ·have h3 : g < w.heap.size := (h.lt g h1).2
  rw [hat] at h2
  injection h2 with h2
  omega
theorem filt_yes (p : Job -> Bool) (xs : List Job) (k : Nat) (h : k < xs.length) (hp : p xs[k] = true) : (xs.take (k + 1)).filter p = (xs.take k).filter p ++ [xs[k]] := by
 rw [filter_snoc p xs k h, if_pos hp]
theorem filt_no (p : Job -> Bool) (xs : List Job) (k : Nat) (h : k < xs.length) (hp : p xs[k] = false) : (xs.take (k + 1)).filter p = (xs.take k).filter p := by
 rw [filter_snoc p xs k h, if_neg (by rw [hp]; decide), List.append_nil]
theorem filt_le (p : Job -> Bool) (xs : List Job) (k : Nat) : ((xs.take k).filter p).length <= k := by
 have h1 := List.length_filter_le p (xs.take k)
 have h2 := List.length_take_le k xs
 omega
def leftP (now : Int) (x : Job) : Bool := !decide (x.deadline <= now)
def lateP (now : Int) (x : Job) : Bool := decide (x.deadline <= now)
def leftJ (js : List Job) (now : Int) : List Job := if jobsMay js = true then js.filter (leftP now) else []
def lateJ (js : List Job) (now : Int) : List Job := if jobsMay js = true then js.filter (lateP now) else []
set_option maxRecDepth 100000 in
set_option maxHeartbeats 4000000 in
theorem missed_any (v : Value) (js : List Job) (now : Int) (w : World) (hv : JobsV w v js) :
  Calls Tryz.prog 71 #[v, .int .i64 now] w fun e w' => ∃ a b, e = .returned (.tuple #[a, b]) /\ JobRow w' w.heap.size a (leftJ js now) /\ JobRow w' w.heap.size b (lateJ js now) /\ Apart a b /\ Below w.heap.size w w' := by
 obtain ⟨a, cap, rfl, h2, h3, h4, h5⟩ := id hv
 have H := Lib.hid h5
 have HV := Lib.hid hv
 have hl : js.length <= 2513169434844 := by omega
 clear h5 hv
 go_enter Tryz.func71, Tryz.ntmps71
 go_wp2_with fail
 refine (readyMay_any _ js _ HV.out).mono ?_
 by_cases hm : jobsMay js = true
 ·rw [hm]
  rintro e w1 ⟨rfl, hb1⟩
  have HL := Lib.hid (show leftJ js now = js.filter (leftP now) by unfold leftJ; rw [if_pos hm])
  have HM := Lib.hid (show lateJ js now = js.filter (lateP now) by unfold lateJ; rw [if_pos hm])
  have HB1 := Lib.hid hb1
  clear hm hb1
  go_wp2_with fail
  go_loopw [6, 7, 15] (fun l m i wr => ∃ k : Nat, k <= js.length /\ i = .int .i64 k /\ Hid (JobRow wr w.heap.size l ((js.take k).filter (leftP now))) /\ Hid (JobRow wr w.heap.size m ((js.take k).filter (lateP now))) /\ Hid (Apart l m) /\ Below w.heap.size w wr) (fun _ _ i _ => js.length - (intOf i).toNat)
  case atStart => exact ⟨0, by omega, rfl, Lib.hid (World.ownsRow_nil _ _ _ _), Lib.hid (World.ownsRow_nil _ _ _ _), Lib.hid (fun g h => by simp [Value.ownBlock] at h), HB1.out⟩
  case round =>
   obtain ⟨k, hk, rfl, HO1, HO2, HA, hB⟩ := hrel
   have HB := Lib.hid hB
   clear hB
   by_cases hlt : k < js.length
   ·obtain ⟨b, off, rfl, hcell⟩ := H.out (by intro h; rw [h] at hlt; simp at hlt)
    obtain ⟨y0, y1, y2, y3, y4, y5, y6⟩ := JobAt.ext (Ext.below HB.out) (hcell k hlt)
    unfold IntAt at y0 y1 y2 y3 y4 y5 y6
    clear hcell
    have hkl1 := filt_le (leftP now) js k
    have hkl2 := filt_le (lateP now) js k
    by_cases hp : js[k].deadline <= now
    ·have HP1 := Lib.hid (show leftP now js[k] = false by unfold leftP; rw [decide_eq_true hp]; rfl)
     have HP2 := Lib.hid (show lateP now js[k] = true from decide_eq_true hp)
     have hp' : decide (js[k].deadline <= now) = true := decide_eq_true hp
     clear hp
     have hbx : Below wr.heap.size wr (wr.alloc (.cells (jobCells js[k]).toArray 124)) := by first | exact balloc _ _ | exact Below.refl _ _
     have HX := Lib.hid (bthen HB.out hbx)
     have HO1x := Lib.hid (show JobRow (wr.alloc (.cells (jobCells js[k]).toArray 124)) w.heap.size u6 _ from Below.kept HO1.out hbx)
     have HO2x := Lib.hid (show JobRow (wr.alloc (.cells (jobCells js[k]).toArray 124)) w.heap.size u7 _ from Below.kept HO2.out hbx)
     clear hbx
     go_wp2_with (at_builtin; refine append_elem_at rfl (.tmp 23) (.tmp 25) 72 rfl w.heap.size 124 _ 7 56 Tryz.underlying72 infoJob rfl (by decide) u7 _ _ rfl HO2x.out (jobCells js[k]) (wr.heap.size + 1) (by simp) rfl rfl rfl (by omega) (by omega) HX.out.size ?_)
     intro v2 w3 hown3 hbel3 hgr3 hat3
     have ho := Below.kept HO1x.out (balloc (wr.alloc (.cells (jobCells js[k]).toArray 124)) (.cells (jobCells js[k]).toArray 124))
     have hn := JobRow.snoc rfl hown3
     have HN2 := Lib.hid (own_two ho HA.out hgr3)
     have HA2 := Lib.hid (apart_next ho HA.out (hat3.imp id (fun h => ⟨_, (by simp), h⟩)))
     have HN1 := Lib.hid hn
     have HB3 := Lib.hid (HX.out.trans hbel3)
     obtain ⟨va, vc, rfl⟩ := own_shape hown3
     clear ho hn hown3 hbel3 hgr3 hat3 HX HO1x HO2x y0 y1 y2 y3 y4 y5 y6
     go_wp2_with fail
     go_roundw
     case rel => exact ⟨k + 1, by omega, by go_num, Lib.hid (by rw [filt_no _ js k hlt HP1.out]; exact HN2.out), Lib.hid (by rw [filt_yes _ js k hlt HP2.out]; exact HN1.out), HA2, HB3.out⟩
     case measure => simp [intOf]; omega
    ·have HP1 := Lib.hid (show leftP now js[k] = true by unfold leftP; rw [decide_eq_false hp]; rfl)
     have HP2 := Lib.hid (show lateP now js[k] = false from decide_eq_false hp)
     have hp' : decide (js[k].deadline <= now) = false := decide_eq_false hp
     clear hp
     have hbx : Below wr.heap.size wr (wr.alloc (.cells (jobCells js[k]).toArray 124)) := by first | exact balloc _ _ | exact Below.refl _ _
     have HX := Lib.hid (bthen HB.out hbx)
     have HO1x := Lib.hid (show JobRow (wr.alloc (.cells (jobCells js[k]).toArray 124)) w.heap.size u6 _ from Below.kept HO1.out hbx)
     have HO2x := Lib.hid (show JobRow (wr.alloc (.cells (jobCells js[k]).toArray 124)) w.heap.size u7 _ from Below.kept HO2.out hbx)
     clear hbx
     go_wp2_with (at_builtin; refine append_elem_at rfl (.tmp 27) (.tmp 29) 72 rfl w.heap.size 124 _ 7 56 Tryz.underlying72 infoJob rfl (by decide) u6 _ _ rfl HO1x.out (jobCells js[k]) (wr.heap.size + 1) (by simp) rfl rfl rfl (by omega) (by omega) HX.out.size ?_)
     intro v2 w3 hown3 hbel3 hgr3 hat3
     have ho := Below.kept HO2x.out (balloc (wr.alloc (.cells (jobCells js[k]).toArray 124)) (.cells (jobCells js[k]).toArray 124))
     have hn := JobRow.snoc rfl hown3
     have HN2 := Lib.hid (own_two ho HA.out.symm hgr3)
     have HA2 := Lib.hid (apart_next ho HA.out.symm (hat3.imp id (fun h => ⟨_, (by simp), h⟩)))
     have HN1 := Lib.hid hn
     have HB3 := Lib.hid (HX.out.trans hbel3)
     obtain ⟨va, vc, rfl⟩ := own_shape hown3
     clear ho hn hown3 hbel3 hgr3 hat3 HX HO1x HO2x y0 y1 y2 y3 y4 y5 y6
     go_wp2_with fail
     go_roundw
     case rel => exact ⟨k + 1, by omega, by go_num, Lib.hid (by rw [filt_yes _ js k hlt HP1.out]; exact HN1.out), Lib.hid (by rw [filt_no _ js k hlt HP2.out]; exact HN2.out), Lib.hid HA2.out.symm, HB3.out⟩
     case measure => simp [intOf]; omega
   ·obtain rfl : k = js.length := by omega
    have e1 : (js.take js.length).filter (leftP now) = leftJ js now := by rw [List.take_length, HL.out]
    have e2 : (js.take js.length).filter (lateP now) = lateJ js now := by rw [List.take_length, HM.out]
    rw [e1] at HO1
    rw [e2] at HO2
    clear e1 e2
    obtain ⟨va, vc, rfl⟩ := own_shape HO1.out
    obtain ⟨vd, ve, rfl⟩ := own_shape HO2.out
    go_wp2_with fail
    go_ret2
    exact ⟨_, _, rfl, HO1.out, HO2.out, HA.out, HB.out⟩
 ·have hm : jobsMay js = false := by simpa using hm
  rw [hm]
  rintro e w1 ⟨rfl, hb1⟩
  have HL := Lib.hid (show leftJ js now = [] by unfold leftJ; rw [hm]; rfl)
  have HM := Lib.hid (show lateJ js now = [] by unfold lateJ; rw [hm]; rfl)
  have HB1 := Lib.hid hb1
  clear hm hb1
  go_wp2_with fail
  go_ret2
  refine ⟨_, _, rfl, ?_, ?_, (fun g h => by simp [Value.ownBlock] at h), HB1.out⟩
  ·rw [HL.out]; exact World.ownsRow_nil _ _ _ _
  ·rw [HM.out]; exact World.ownsRow_nil _ _ _ _
end Go.Proofs.YtooeeiiiflfckaaGreat
/- Rows of jobs, plainly: a row is sorted, and what is put stays so. -/
namespace Go.Proofs.YtooeeiiiflfckaaGreat
open Go.RowKit
theorem jobsMay_pw (js : List Job) : jobsMay js = true ↔ (∀ x ∈ js, jobMay x = true) /\ js.Pairwise (fun a b => ahead a b = true) /\ js.length <= 16 := by
 constructor
 ·intro h
  have h' := (jobsMay_iff js).1 h
  refine ⟨fun x hx => ?_, ?_, h'.2⟩
  ·obtain ⟨i, hi, rfl⟩ := List.mem_iff_getElem.1 hx
   have h1 := h'.1 i hi
   unfold okAt at h1
   rw [getD_at hi, Bool.and_eq_true] at h1
   exact h1.1
  ·rw [List.pairwise_iff_getElem]
   intro i j hi hj hij
   obtain ⟨d, rfl⟩ : ∃ d, j = i + d + 1 := ⟨j - i - 1, by omega⟩
   exact jobsMay_lt h d i hj
 ·rintro ⟨h1, h2, h3⟩
  rw [jobsMay_iff]
  refine ⟨fun i hi => ?_, h3⟩
  rcases i with _ | i
  ·exact okAt_first hi (h1 _ (List.getElem_mem hi))
  ·rw [okAt_next hi (h1 _ (List.getElem_mem hi))]
   exact (List.pairwise_iff_getElem.1 h2) i (i + 1) (by omega) hi (by omega)
theorem jobsMay_filter {js : List Job} (h : jobsMay js = true) (p : Job -> Bool) : jobsMay (js.filter p) = true := by
 rw [jobsMay_pw] at h |-
 exact ⟨fun x hx => h.1 x (List.mem_filter.1 hx).1, h.2.1.filter p, Nat.le_trans (List.length_filter_le p js) h.2.2⟩
theorem tw_stop {α : Type} (p : α -> Bool) : ∀ (l : List α) (h : (l.takeWhile p).length < l.length), p l[(l.takeWhile p).length] = false
 | [], h => by simp at h
 | x :: r, h => by
  by_cases hp : p x = true
  ·simp only [List.takeWhile_cons_of_pos hp, List.length_cons, List.getElem_cons_succ] at h |-
   exact tw_stop p r (by simpa using h)
  ·simp only [List.takeWhile_cons_of_neg hp, List.length_nil, List.getElem_cons_zero]
   simpa using hp
theorem pos_stop {js : List Job} {x : Job} (h : pos js x < js.length) : ahead js[pos js x] x = false := tw_stop (fun y => ahead y x) js h
theorem take_pos (js : List Job) (x : Job) : js.take (pos js x) = js.takeWhile (fun y => ahead y x) := (List.prefix_iff_eq_take.1 (List.takeWhile_prefix _)).symm
theorem before_pos {js : List Job} {x y : Job} (hy : y ∈ js.take (pos js x)) : ahead y x = true := by
 rw [take_pos] at hy
 have h := List.all_takeWhile (p := fun y => ahead y x) (l := js)
 rw [List.all_eq_true] at h
 exact h y hy
theorem hit_no {js : List Job} {x : Job} (h : hit js x = false) (hp : pos js x < js.length) : ahead x js[pos js x] = true := by
 cases hx : ahead x js[pos js x]
 ·exfalso
  have hz : cmpJ js[pos js x] x = 0 := (cmpJ_zero _ _).2 ⟨pos_stop hp, hx⟩
  unfold hit at h
  rw [List.getElem?_eq_getElem hp, Option.map_some, hz] at h
  simp at h
 ·rfl
theorem behind_pos {js : List Job} {x y : Job} (hm : jobsMay js = true) (h : hit js x = false) (hy : y ∈ js.drop (pos js x)) : ahead x y = true := by
 obtain ⟨i, hi, rfl⟩ := List.mem_iff_getElem.1 hy
 rw [List.length_drop] at hi
 rw [List.getElem_drop]
 have hp : pos js x < js.length := by omega
 rcases i with _ | i
 ·exact hit_no h hp
 ·exact ahead_trans (hit_no h hp) (jobsMay_lt hm i (pos js x) (by omega))
theorem putE_zero {js : List Job} {x : Job} (h : putE js x = 0) : jobsMay js = true /\ jobMay x = true /\ hit js x = false /\ js.length ≠ 16 := by
 unfold putE at h
 by_cases h1 : jobsMay js = false ∨ jobMay x = false
 ·rw [if_pos h1] at h; simp at h
 rw [if_neg h1] at h
 by_cases h2 : hit js x = true
 ·rw [if_pos h2] at h; simp at h
 rw [if_neg h2] at h
 by_cases h3 : js.length = 16
 ·rw [if_pos h3] at h; simp at h
 refine ⟨?_, ?_, by simpa using h2, h3⟩
 ·cases hq : jobsMay js
  ·exact absurd (.inl hq) h1
  ·rfl
 ·cases hq : jobMay x
  ·exact absurd (.inr hq) h1
  ·rfl
theorem putL_mem {js : List Job} {x y : Job} : y ∈ putL js x ↔ y ∈ js ∨ y = x := by
 unfold putL
 have e : y ∈ js ↔ y ∈ js.take (pos js x) ∨ y ∈ js.drop (pos js x) := by rw [<- List.mem_append, List.take_append_drop]
 rw [e]
 simp only [List.mem_append, List.mem_singleton]
 constructor
 ·rintro ((h | h) | h)
  ·exact .inl (.inl h)
  ·exact .inr h
  ·exact .inl (.inr h)
 ·rintro ((h | h) | h)
  ·exact .inl (.inl h)
  ·exact .inr h
  ·exact .inl (.inr h)
theorem putL_len (js : List Job) (x : Job) : (putL js x).length = js.length + 1 := by
 have := pos_le js x
 unfold putL
 simp only [List.length_append, List.length_take, List.length_drop, List.length_cons, List.length_nil]
 omega
theorem putL_may {js : List Job} {x : Job} (h : putE js x = 0) : jobsMay (putL js x) = true := by
 obtain ⟨hm, hx, hh, h16⟩ := putE_zero h
 have hp := (jobsMay_pw js).1 hm
 rw [jobsMay_pw]
 refine ⟨fun y hy => ?_, ?_, ?_⟩
 ·rcases putL_mem.1 hy with hy | rfl
  ·exact hp.1 y hy
  ·exact hx
 ·unfold putL
  rw [List.append_assoc, List.pairwise_append]
  refine ⟨hp.2.1.sublist (List.take_sublist _ _), ?_, ?_⟩
  ·rw [List.singleton_append, List.pairwise_cons]
   exact ⟨fun y hy => behind_pos hm hh hy, hp.2.1.sublist (List.drop_sublist _ _)⟩
  ·intro a ha b hb
   rw [List.singleton_append, List.mem_cons] at hb
   rcases hb with rfl | hb
   ·exact before_pos ha
   ·exact ahead_trans (before_pos ha) (behind_pos hm hh hb)
 ·rw [putL_len]; have := hp.2.2; omega
end Go.Proofs.YtooeeiiiflfckaaGreat
