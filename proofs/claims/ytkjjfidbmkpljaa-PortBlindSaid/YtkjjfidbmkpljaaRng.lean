/- package ring. -/
import Derived.Test.YtkjjfidbmkpljaaKeeps
import Derived.Test.YtkjjfidbmkpljaaData
import Derived.Test.YtkjjfidbmkpljaaProg
set_option linter.unusedVariables false
set_option linter.unusedSimpArgs false
namespace Go.Proofs.Ytkjjfidbmkpljaa
open Go.RowKit

def vi (x : Int) : Value := .int .i64 x
def ringCells (cs : List Int) (k f m : Nat) : List Value := cs.map vi ++ [vi k, vi f, vi m]
/-- A ring: the block g holds the row q, of at most k numbers. -/
structure RingIs (W : World) (g : Nat) (k : Nat) (q cs : List Int) (f : Nat) : Prop where
  blk : W.heap[g]? = some (.cells (ringCells cs k f q.length).toArray 139 (0, 0))
  len : cs.length = 64
  k1 : 1 ≤ k
  k2 : k ≤ 64
  fk : f < k
  qk : q.length ≤ k
  at_ : ∀ i (h : i < q.length), cs[(f + i) % k]? = some q[i]
def RingAt (W : World) (g : Nat) (k : Nat) (q : List Int) : Prop := ∃ cs f, RingIs W g k q cs f
theorem RingIs.get {W : World} {g k : Nat} {q cs : List Int} {f : Nat} (h : RingIs W g k q cs f) {i : Nat} (hi : i < 64) : W.cell? ⟨g, i, none⟩ = some (vi (cs[i]'(by rw [h.len]; exact hi))) := by
  refine BlockIs.of h.blk i _ ?_
  have hl := h.len
  simp only [List.getElem?_toArray, ringCells]
  rw [List.getElem?_append_left (by rw [List.length_map]; omega), List.getElem?_map, List.getElem?_eq_getElem (by omega)]
  rfl
theorem RingIs.size {W : World} {g k : Nat} {q cs : List Int} {f : Nat} (h : RingIs W g k q cs f) : W.cell? ⟨g, 64, none⟩ = some (.int .i64 k) := by
  refine BlockIs.of h.blk 64 _ ?_
  have hl := h.len
  simp only [List.getElem?_toArray, ringCells]
  rw [List.getElem?_append_right (by rw [List.length_map]; omega), List.length_map, hl]
  rfl
theorem RingIs.first {W : World} {g k : Nat} {q cs : List Int} {f : Nat} (h : RingIs W g k q cs f) : W.cell? ⟨g, 65, none⟩ = some (.int .i64 f) := by
  refine BlockIs.of h.blk 65 _ ?_
  have hl := h.len
  simp only [List.getElem?_toArray, ringCells]
  rw [List.getElem?_append_right (by rw [List.length_map]; omega), List.length_map, hl]
  rfl
theorem RingIs.many {W : World} {g k : Nat} {q cs : List Int} {f : Nat} (h : RingIs W g k q cs f) : W.cell? ⟨g, 66, none⟩ = some (.int .i64 q.length) := by
  refine BlockIs.of h.blk 66 _ ?_
  have hl := h.len
  simp only [List.getElem?_toArray, ringCells]
  rw [List.getElem?_append_right (by rw [List.length_map]; omega), List.length_map, hl]
  rfl
theorem RingIs.keep {W W' : World} {g k : Nat} {q cs : List Int} {f : Nat} (h : RingIs W g k q cs f) (hb : W'.heap[g]? = W.heap[g]?) : RingIs W' g k q cs f :=
  ⟨hb.trans h.blk, h.len, h.k1, h.k2, h.fk, h.qk, h.at_⟩
theorem ring_set {W : World} {g k f m : Nat} {cs : List Int} {t : TypeId} (h : W.heap[g]? = some (.cells (ringCells cs k f m).toArray t (0, 0))) (hl : cs.length = 64) {j : Nat} (hj : j < 64) (x : Int) :
    (W.setCell ⟨g, j, none⟩ (vi x)).heap[g]? = some (.cells (ringCells (cs.set j x) k f m).toArray t (0, 0)) := by
  have := blk_set h j (vi x)
  simp only [List.setIfInBounds_toArray, ringCells] at this ⊢
  rwa [List.set_append_left _ _ (by rw [List.length_map]; omega), ← List.map_set] at this
theorem ring_first {W : World} {g k f m : Nat} {cs : List Int} {t : TypeId} (h : W.heap[g]? = some (.cells (ringCells cs k f m).toArray t (0, 0))) (hl : cs.length = 64) (f' : Nat) :
    (W.setCell ⟨g, 65, none⟩ (vi f')).heap[g]? = some (.cells (ringCells cs k f' m).toArray t (0, 0)) := by
  have := blk_set h 65 (vi f')
  simp only [List.setIfInBounds_toArray, ringCells] at this ⊢
  rwa [List.set_append_right _ _ (by rw [List.length_map]; omega), List.length_map, hl] at this
theorem ring_many {W : World} {g k f m : Nat} {cs : List Int} {t : TypeId} (h : W.heap[g]? = some (.cells (ringCells cs k f m).toArray t (0, 0))) (hl : cs.length = 64) (m' : Nat) :
    (W.setCell ⟨g, 66, none⟩ (vi m')).heap[g]? = some (.cells (ringCells cs k f m').toArray t (0, 0)) := by
  have := blk_set h 66 (vi m')
  simp only [List.setIfInBounds_toArray, ringCells] at this ⊢
  rwa [List.set_append_right _ _ (by rw [List.length_map]; omega), List.length_map, hl] at this
set_option maxRecDepth 100000 in
set_option maxHeartbeats 1000000 in
theorem rat_any (g k f i : Nat) (w : World) (hs : w.cell? ⟨g, 64, none⟩ = some (.int .i64 k)) (hf : w.cell? ⟨g, 65, none⟩ = some (.int .i64 f)) (hk : 1 ≤ k) (hk2 : k ≤ 64) (hfk : f < k) (hi : i ≤ 64) :
    Calls Try.prog 94 #[.pointer (some ⟨g, 0, none⟩), .int .i64 i] w fun e w' => e = .returned (.int .i64 ((f + i) % k : Nat)) ∧ ∃ m, w' = w.drewN m := by
  have s1 : IntKind.i64.wrap ((f : Int) + (i : Int)) = ((f + i : Nat) : Int) := by rw [IntKind.wrap_i64]; omega
  have s2 : ((f + i : Nat) : Int).tmod (k : Int) = (((f + i) % k : Nat) : Int) := by rw [Int.tmod_eq_emod_of_nonneg (by omega)]; rfl
  have s3 : ¬ (k : Int) = 0 := by omega
  have hlt : (f + i) % k < 64 := Nat.lt_of_lt_of_le (Nat.mod_lt _ (by omega)) hk2
  have s4 : IntKind.i64.wrap (((f + i) % k : Nat) : Int) = (((f + i) % k : Nat) : Int) := by rw [IntKind.wrap_i64]; omega
  go_enter Try.func94, Try.ntmps94
  go_wp2_with fail
  go_quiet (fail)
  go_wp2_with fail
  go_ret
  exact ⟨rfl, _, rfl⟩
theorem modc {f k i : Nat} (hf : f < k) (hi : i ≤ k) : (f + i) % k = if f + i < k then f + i else f + i - k := by
  split
  · rename_i h; exact Nat.mod_eq_of_lt h
  · rename_i h
    rw [Nat.mod_eq_sub_mod (by omega)]
    exact Nat.mod_eq_of_lt (by omega)
theorem modc_ne {f k i j : Nat} (hf : f < k) (hj : j < k) (hij : i < j) : (f + i) % k ≠ (f + j) % k := by
  rw [modc hf (by omega), modc hf (by omega)]
  split <;> split <;> omega
theorem modc_one {f k i : Nat} (hf : f < k) : ((f + 1) % k + i) % k = (f + (i + 1)) % k := by
  rw [Nat.mod_add_mod]
  congr 1
  omega
theorem grown_drewN (w : World) (n : Nat) (r : Option Nat) : w.grownBy (w.drewN n) r := ⟨rfl, rfl, rfl, Nat.le_refl _, fun _ _ _ => rfl⟩
def PuV (g j m : Nat) (x : Int) (i : Nat) (v : Value) : Prop := match i with
  | 0 => v = .pointer (some ⟨g, 0, none⟩)
  | 1 => v = .pointer (some ⟨g, 0, none⟩)
  | 2 => v = .pointer (some ⟨g, 0, none⟩)
  | 3 => v = .pointer (some ⟨g, 0, none⟩)
  | 4 => v = .pointer (some ⟨g, 66, none⟩)
  | 5 => v = .int .i64 (m : Int)
  | 6 => v = .int .i64 (j : Int)
  | 7 => v = .int .i64 x
  | 8 => v = .pointer (some ⟨g, 0, none⟩)
  | 9 => v = .pointer (some ⟨g, 0, none⟩)
  | 10 => v = .pointer (some ⟨g, j, none⟩)
  | _ => True
theorem RingIs.got {W : World} {g k : Nat} {q cs : List Int} {f : Nat} (h : RingIs W g k q cs f) {i : Nat} {y : Int} (hy : cs[i]? = some y) : W.cell? ⟨g, i, none⟩ = some (.int .i64 y) := by
  obtain ⟨hi, e⟩ := List.getElem?_eq_some_iff.1 hy
  have := h.get (i := i) (by rw [← h.len]; exact hi)
  rw [e] at this
  exact this
theorem RingAt.keep {W W' : World} {g k : Nat} {q : List Int} (h : RingAt W g k q) (hb : W'.heap[g]? = W.heap[g]?) : RingAt W' g k q := by
  obtain ⟨cs, f, h⟩ := h
  exact ⟨cs, f, h.keep hb⟩
theorem RingAt.lt {W : World} {g k : Nat} {q : List Int} (h : RingAt W g k q) : g < W.heap.size := by
  obtain ⟨cs, f, h⟩ := h
  exact lt_of_block h.blk
theorem RingAt.len {W : World} {g k : Nat} {q : List Int} (h : RingAt W g k q) : q.length ≤ k ∧ 1 ≤ k ∧ k ≤ 64 := by
  obtain ⟨cs, f, h⟩ := h
  exact ⟨h.qk, h.k1, h.k2⟩
theorem RingIs.popped {w : World} {g k f : Nat} {y : Int} {r cs : List Int} (h : RingIs w g k (y :: r) cs f) (n : Nat) :
    RingIs (((w.drewN n).setCell ⟨g, 65, none⟩ (vi ((f + 1) % k : Nat))).setCell ⟨g, 66, none⟩ (vi r.length)) g k r cs ((f + 1) % k) := by
  refine ⟨ring_many (ring_first (show (w.drewN n).heap[g]? = _ from h.blk) h.len _) h.len _, h.len, h.k1, h.k2, Nat.mod_lt _ (by have := h.k1; omega), by have := h.qk; simp at this; omega, fun i hi => ?_⟩
  have := h.at_ (i + 1) (by simpa using hi)
  rw [modc_one h.fk]
  simpa using this
theorem RingIs.pushed {w : World} {g k f : Nat} {q cs : List Int} (h : RingIs w g k q cs f) (hq : q.length < k) (x : Int) (n : Nat) :
    RingIs (((w.drewN n).setCell ⟨g, (f + q.length) % k, none⟩ (vi x)).setCell ⟨g, 66, none⟩ (vi (q.length + 1 : Nat))) g k (q ++ [x]) (cs.set ((f + q.length) % k) x) f := by
  have hm : (f + q.length) % k < k := Nat.mod_lt _ (by omega)
  have hk2 := h.k2
  refine ⟨?_, by rw [List.length_set]; exact h.len, h.k1, h.k2, h.fk, by simp; omega, fun i hi => ?_⟩
  · have := ring_many (ring_set (show (w.drewN n).heap[g]? = _ from h.blk) h.len (j := (f + q.length) % k) (by omega) x) (by rw [List.length_set]; exact h.len) (q.length + 1)
    rw [List.length_append]
    exact this
  · rw [List.length_append] at hi
    by_cases e : i = q.length
    · subst e
      rw [List.getElem?_set_self (by rw [h.len]; omega)]
      simp
    · have hi' : i < q.length := by simp at hi; omega
      rw [List.getElem?_set_ne (fun e2 => modc_ne h.fk hq hi' e2.symm), List.getElem_append_left hi']
      exact h.at_ i hi'
def pushQ (k : Nat) (q : List Int) (x : Int) : List Int := if q.length = k then q.tail ++ [x] else q ++ [x]
set_option maxRecDepth 100000 in
set_option maxHeartbeats 4000000 in
theorem ring_pop (g k : Nat) (q : List Int) (w : World) (h : RingAt w g k q) :
    Calls Try.prog 93 #[.pointer (some ⟨g, 0, none⟩)] w fun e w' => e = .returned (.tuple #[vi (q.headD 0), .bool (!q.isEmpty)]) ∧ RingAt w' g k q.tail ∧ w.grownBy w' (some g) := by
  obtain ⟨cs, f, h⟩ := h
  have HH := Lib.hid h
  have x1 := h.many
  have x2 := h.first
  have hf64 : f < 64 := by have := h.fk; have := h.k2; omega
  have c1 : (f : Int) < 64 := by omega
  go_enter Try.func93, Try.ntmps93
  rcases q with _ | ⟨y, r⟩
  · clear h
    go_wp2_with fail
    go_ret2
    exact ⟨rfl, ⟨cs, f, HH.out⟩, World.grownBy.refl _ _⟩
  · have hy : cs[f]? = some y := by
      have := h.at_ 0 (by simp)
      rwa [Nat.add_zero, Nat.mod_eq_of_lt h.fk] at this
    have x3 := h.got hy
    have hq64 : r.length < 64 := by have h1 := h.qk; have h2 := h.k2; simp only [List.length_cons] at h1; omega
    obtain ⟨M, hM⟩ : ∃ M, M = (y :: r).length := ⟨_, rfl⟩
    obtain ⟨M1, hM1⟩ : ∃ M1, M1 = r.length := ⟨_, rfl⟩
    rw [← hM] at x1
    have hMM : M = M1 + 1 := by rw [hM, hM1]; rfl
    have c2 : ((M : Int) == 0) = false := by rw [beq_eq_false_iff_ne]; omega
    have s5 : IntKind.i64.wrap ((M : Int) - 1) = (M1 : Int) := by rw [IntKind.wrap_i64]; omega
    obtain ⟨j, hj⟩ : ∃ j, j = (f + 1) % k := ⟨_, rfl⟩
    have HE := Lib.hid (And.intro hy (And.intro hM1 hj))
    have f1 := thaw h.blk 65
    have f2 := thaw h.blk 66
    clear h hy hM hM1 hMM
    go_wp2_with fail
    go_quiet (fail)
    go_wp2_with fail
    refine (rat_any g k f 1 _ (by exact HH.out.size) (by exact HH.out.first) HH.out.k1 HH.out.k2 HH.out.fk (by omega)).mono ?_
    rintro e w1 ⟨rfl, m, rfl⟩
    rw [← hj]
    clear hj
    go_wp2_with fail
    go_ret2
    refine ⟨rfl, ⟨cs, j, ?_⟩, ?_⟩
    · rw [HE.out.2.2, HE.out.2.1]
      exact HH.out.popped _
    · exact grown_trans (grown_trans (grown_drewN _ _ _) (set_grown _ _ _ _)) (set_grown _ _ _ _)
set_option maxRecDepth 100000 in
set_option maxHeartbeats 4000000 in
theorem ring_push (g k : Nat) (q : List Int) (x : Int) (w : World) (h : RingAt w g k q) :
    Calls Try.prog 99 #[.pointer (some ⟨g, 0, none⟩), .int .i64 x] w fun e w' => ∃ old, e = .returned (.tuple #[vi old, .bool (decide (q.length = k))]) ∧ RingAt w' g k (pushQ k q x) ∧ w.grownBy w' (some g) := by
  have HL := Lib.hid h.len
  obtain ⟨cs, f, h⟩ := id h
  have HR := Lib.hid (show RingAt w g k q from ⟨cs, f, h⟩)
  have x1 := h.many
  have x2 := h.size
  obtain ⟨M, hM⟩ : ∃ M, M = q.length := ⟨_, rfl⟩
  rw [← hM] at x1
  go_enter Try.func99, Try.ntmps99
  by_cases hk : q.length = k
  · have c1 : ((M : Int) == (k : Int)) = true := by rw [beq_iff_eq]; omega
    have HK := Lib.hid hk
    have HM := Lib.hid hM
    clear h hM hk
    go_wp2_with fail
    go_quiet (fail)
    go_wp2_with fail
    refine (ring_pop g k q _ (HR.out.keep (by rfl))).mono ?_
    rintro e w1 ⟨rfl, hr, hg⟩
    have HG1 := Lib.hid (grown_trans (grown_drewN w _ _) hg)
    obtain ⟨cs1, f1, hr⟩ := hr
    have hql : q.tail.length = k - 1 := by rw [List.length_tail, HK.out]
    have hqt : pushQ k q x = q.tail ++ [x] := by unfold pushQ; rw [if_pos HK.out]
    have HQ := Lib.hid (And.intro hql hqt)
    clear hg hql hqt
    unfold vi
    have hm : q.tail.length < k := by rw [HQ.out.1]; have := HL.out; omega
    obtain ⟨m, hmm⟩ : ∃ m, m = q.tail.length := ⟨_, rfl⟩
    obtain ⟨j, hj⟩ : ∃ j, j = (f1 + m) % k := ⟨_, rfl⟩
    have hk1 := hr.k1
    have hk2 := hr.k2
    have hfk := hr.fk
    have hm64 : m ≤ 64 := by omega
    have hj64 : j < 64 := by rw [hj]; have := Nat.mod_lt (f1 + m) (show 0 < k by omega); omega
    obtain ⟨old, hold⟩ : ∃ old, cs1[j]? = some old := ⟨_, List.getElem?_eq_getElem (by rw [hr.len]; exact hj64)⟩
    have HM := Lib.hid (show w1.cell? ⟨g, 66, none⟩ = some (.int .i64 (m : Int)) by rw [hmm]; exact hr.many)
    have HSZ := Lib.hid hr.size
    have HFI := Lib.hid hr.first
    have HO := Lib.hid (hr.got hold)
    have HFZ := Lib.hid (thaw hr.blk j)
    have HJ := Lib.hid (show Value.int .i64 (((f1 + m) % k : Nat) : Int) = .int .i64 (j : Int) by rw [hj])
    have HRI := Lib.hid (hr.pushed hm x)
    have hff := thaw hr.blk 66
    have HEQ := Lib.hid (And.intro hj hmm)
    have s7 : IntKind.i64.wrap ((m : Int) + 1) = ((m + 1 : Nat) : Int) := by rw [IntKind.wrap_i64]; omega
    have d1 : (j : Int) < 64 := by omega
    clear hm hold hj hmm
    go_wp2_with fail
    refine region_inv0 rfl (by kernel_rfl) (PInv (PuV g j m x) 11 (fun W => ∃ n, W = w1.drewN n) (fun W => ∃ n, W = (w1.drewN n).setCell ⟨g, j, none⟩ (vi x))) (fun vs h0 => ⟨(fun i h => by cases h), (fun _ => ⟨1, rfl⟩), (fun h => by cases h)⟩) ?_ ?_
    · simp (config := { maxSteps := 4000000 }) only [List.map, putAll, Act.put, InvE, List.setIfInBounds_toArray, List.set_cons_succ, List.set_cons_zero, Nat.reduceAdd]
      refine ⟨?_, ?_, ?_, ?_, ?_, ?_, ?_, ?_, ?_, ?_, ?_, ?_, trivial⟩
      all_goals
        intro L vs W hI hi hn hcl K hK
        rw [if_pos (by simp [Region.wanted])]
      · have HK := Lib.hid (fun v h => hK v W ⟨pv_upd hI.pv h, hI.s0, hI.s1⟩)
        clear hK hI hn hcl hi
        go_simp
        exact HK.out _ rfl
      · have HK := Lib.hid (fun v h => hK v W ⟨pv_upd hI.pv h, hI.s0, hI.s1⟩)
        clear hK hI hn hcl hi
        go_simp
        exact HK.out _ rfl
      · have HK := Lib.hid (fun v h => hK v W ⟨pv_upd hI.pv h, hI.s0, hI.s1⟩)
        clear hK hI hn hcl hi
        go_simp
        exact HK.out _ rfl
      · have r2 : vs 2 = .pointer (some ⟨g, 0, none⟩) := hI.pv 2 (hn 2 rfl)
        simp only [r2] at hK ⊢
        have HK := Lib.hid (fun v h => hK v W ⟨pv_upd hI.pv h, hI.s0, hI.s1⟩)
        clear hK hI hn hcl hi
        go_simp
        exact HK.out _ rfl
      · have r3 : vs 3 = .pointer (some ⟨g, 0, none⟩) := hI.pv 3 (hn 3 rfl)
        simp only [r3] at hK ⊢
        have HK := Lib.hid (fun v h => hK v W ⟨pv_upd hI.pv h, hI.s0, hI.s1⟩)
        clear hK hI hn hcl hi
        go_simp
        exact HK.out _ rfl
      · have r4 : vs 4 = .pointer (some ⟨g, 66, none⟩) := hI.pv 4 (hn 4 rfl)
        have hLn : L 11 = false := by
          cases h : L 11
          · rfl
          · exact absurd (hcl 6 _ rfl (hcl 10 _ rfl (hcl 11 _ rfl h 10 rfl) 6 rfl) 5 rfl) (Bool.eq_false_iff.1 hi)
        have HS := Lib.hid (hI.s0 hLn)
        obtain ⟨nn, hnn⟩ := HS.out
        have y0 : W.cell? ⟨g, 66, none⟩ = some (.int .i64 (m : Int)) := by rw [hnn]; exact HM.out
        clear hnn
        simp only [r4] at hK ⊢
        have HK := Lib.hid (fun v h => hK v W ⟨pv_upd hI.pv h, hI.s0, hI.s1⟩)
        clear hK hI hn hcl hi hLn
        go_simp
        exact HK.out _ rfl
      · have r1 : vs 1 = .pointer (some ⟨g, 0, none⟩) := hI.pv 1 (hn 1 rfl)
        have r5 : vs 5 = .int .i64 (m : Int) := hI.pv 5 (hn 5 rfl)
        have hLn : L 11 = false := by
          cases h : L 11
          · rfl
          · exact absurd (hcl 10 _ rfl (hcl 11 _ rfl h 10 rfl) 6 rfl) (Bool.eq_false_iff.1 hi)
        have HS := Lib.hid (hI.s0 hLn)
        simp only [r1, r5] at hK ⊢
        have HK := Lib.hid hK
        have HP := Lib.hid hI.pv
        have HLn := Lib.hid hLn
        clear hK hI hn hcl hi hLn
        go_simp
        go_at_call 94
        obtain ⟨nn, hnn⟩ := HS.out
        subst hnn
        refine (rat_any g k f1 m _ (by exact HSZ.out) (by exact HFI.out) hk1 hk2 hfk hm64).mono ?_
        rintro e w' ⟨rfl, mm, rfl⟩
        exact HK.out _ _ ⟨pv_upd HP.out HJ.out, fun _ => ⟨nn + mm, by rw [World.drewN_drewN]⟩, fun h => absurd h (Bool.eq_false_iff.1 HLn.out)⟩
      · have HK := Lib.hid (fun v h => hK v W ⟨pv_upd hI.pv h, hI.s0, hI.s1⟩)
        clear hK hI hn hcl hi
        go_simp
        exact HK.out _ rfl
      · have r0 : vs 0 = .pointer (some ⟨g, 0, none⟩) := hI.pv 0 (hn 0 rfl)
        simp only [r0] at hK ⊢
        have HK := Lib.hid (fun v h => hK v W ⟨pv_upd hI.pv h, hI.s0, hI.s1⟩)
        clear hK hI hn hcl hi
        go_simp
        exact HK.out _ rfl
      · have r8 : vs 8 = .pointer (some ⟨g, 0, none⟩) := hI.pv 8 (hn 8 rfl)
        simp only [r8] at hK ⊢
        have HK := Lib.hid (fun v h => hK v W ⟨pv_upd hI.pv h, hI.s0, hI.s1⟩)
        clear hK hI hn hcl hi
        go_simp
        exact HK.out _ rfl
      · have r9 : vs 9 = .pointer (some ⟨g, 0, none⟩) := hI.pv 9 (hn 9 rfl)
        have r6 : vs 6 = .int .i64 (j : Int) := hI.pv 6 (hn 6 rfl)
        simp only [r9, r6] at hK ⊢
        have HK := Lib.hid (fun v h => hK v W ⟨pv_upd hI.pv h, hI.s0, hI.s1⟩)
        clear hK hI hn hcl hi
        go_simp
        exact HK.out _ rfl
      · have r10 : vs 10 = .pointer (some ⟨g, j, none⟩) := hI.pv 10 (hn 10 rfl)
        have r7 : vs 7 = .int .i64 x := hI.pv 7 (hn 7 rfl)
        simp only [r10, r7] at hK ⊢
        have hs := hI.s0 hi
        obtain ⟨nn, rfl⟩ := hs
        have y0 : (w1.drewN nn).cell? ⟨g, j, none⟩ = some (vi old) := HO.out
        have f0 : (w1.drewN nn).frozen? ⟨g, j, none⟩ = false := HFZ.out
        have HK := Lib.hid (fun W' h => hK undef W' ⟨pv_upd hI.pv trivial, (fun q => absurd q (by simp [updB])), fun _ => h⟩)
        clear hK hI hn hcl hi
        go_simp
        exact HK.out _ ⟨nn, rfl⟩
    · intro vs W hI
      simp only [List.map, putAll, Act.put, List.setIfInBounds_toArray, List.set_cons_succ, List.set_cons_zero, Nat.reduceAdd]
      have hs1 := hI.s1 (by simp)
      have r0 : vs 0 = .pointer (some ⟨g, 0, none⟩) := hI.pv 0 (by simp)
      have r1 : vs 1 = .pointer (some ⟨g, 0, none⟩) := hI.pv 1 (by simp)
      have r2 : vs 2 = .pointer (some ⟨g, 0, none⟩) := hI.pv 2 (by simp)
      have r3 : vs 3 = .pointer (some ⟨g, 0, none⟩) := hI.pv 3 (by simp)
      have r4 : vs 4 = .pointer (some ⟨g, 66, none⟩) := hI.pv 4 (by simp)
      have r5 : vs 5 = .int .i64 (m : Int) := hI.pv 5 (by simp)
      have r6 : vs 6 = .int .i64 (j : Int) := hI.pv 6 (by simp)
      have r7 : vs 7 = .int .i64 x := hI.pv 7 (by simp)
      have r8 : vs 8 = .pointer (some ⟨g, 0, none⟩) := hI.pv 8 (by simp)
      have r9 : vs 9 = .pointer (some ⟨g, 0, none⟩) := hI.pv 9 (by simp)
      have r10 : vs 10 = .pointer (some ⟨g, j, none⟩) := hI.pv 10 (by simp)
      simp only [r0, r1, r2, r3, r4, r5, r6, r7, r8, r9, r10]
      clear hI r0 r1 r2 r3 r4 r5 r6 r7 r8 r9 r10
      obtain ⟨nn, rfl⟩ := hs1
      have e1 : ((w1.drewN nn).setCell ⟨g, j, none⟩ (vi x)).cell? ⟨g, 66, none⟩ = some (.int .i64 (m : Int)) := (World.cell?_setCell_other _ _ _ _ (by intro e; injection e with _ e _; omega)).trans HM.out
      go_wp2_with fail
      go_ret2
      refine ⟨q.headD 0, ?_, ?_, ?_⟩
      rotate_left
      · have := HRI.out nn
        rw [← HEQ.out.2, ← HEQ.out.1] at this
        rw [HQ.out.2]
        exact ⟨_, _, this⟩
      · exact grown_trans HG1.out (grown_trans (grown_trans (grown_drewN _ _ _) (set_grown _ _ _ _)) (set_grown _ _ _ _))
      · rw [decide_eq_true HK.out]; simp [vi]
  · have c1 : ((M : Int) == (k : Int)) = false := by rw [beq_eq_false_iff_ne]; omega
    have HK := Lib.hid hk
    have hqt : pushQ k q x = q ++ [x] := by unfold pushQ; rw [if_neg hk]
    have HQ := Lib.hid hqt
    have hqk : q.length < k := by have := HL.out; omega
    have HS := Lib.hid h
    clear h hM hk hqt
    go_wp2_with fail
    go_quiet (fail)
    obtain ⟨w1, hw1⟩ : ∃ w1, w1 = w.drewN nq := ⟨_, rfl⟩
    have hr : RingIs w1 g k q cs f := HS.out.keep (by rw [hw1]; rfl)
    have HG1 := Lib.hid (show w.grownBy w1 (some g) by rw [hw1]; exact grown_drewN _ _ _)
    rw [← hw1]
    clear hw1 x1 x2
    have hm : q.length < k := by exact hqk
    obtain ⟨m, hmm⟩ : ∃ m, m = q.length := ⟨_, rfl⟩
    obtain ⟨j, hj⟩ : ∃ j, j = (f + m) % k := ⟨_, rfl⟩
    have hk1 := hr.k1
    have hk2 := hr.k2
    have hfk := hr.fk
    have hm64 : m ≤ 64 := by omega
    have hj64 : j < 64 := by rw [hj]; have := Nat.mod_lt (f + m) (show 0 < k by omega); omega
    obtain ⟨old, hold⟩ : ∃ old, cs[j]? = some old := ⟨_, List.getElem?_eq_getElem (by rw [hr.len]; exact hj64)⟩
    have HM := Lib.hid (show w1.cell? ⟨g, 66, none⟩ = some (.int .i64 (m : Int)) by rw [hmm]; exact hr.many)
    have HSZ := Lib.hid hr.size
    have HFI := Lib.hid hr.first
    have HO := Lib.hid (hr.got hold)
    have HFZ := Lib.hid (thaw hr.blk j)
    have HJ := Lib.hid (show Value.int .i64 (((f + m) % k : Nat) : Int) = .int .i64 (j : Int) by rw [hj])
    have HRI := Lib.hid (hr.pushed hm x)
    have hff := thaw hr.blk 66
    have HEQ := Lib.hid (And.intro hj hmm)
    have s7 : IntKind.i64.wrap ((m : Int) + 1) = ((m + 1 : Nat) : Int) := by rw [IntKind.wrap_i64]; omega
    have d1 : (j : Int) < 64 := by omega
    clear hm hold hj hmm
    go_wp2_with fail
    refine region_inv0 rfl (by kernel_rfl) (PInv (PuV g j m x) 11 (fun W => ∃ n, W = w1.drewN n) (fun W => ∃ n, W = (w1.drewN n).setCell ⟨g, j, none⟩ (vi x))) (fun vs h0 => ⟨(fun i h => by cases h), (fun _ => ⟨1, rfl⟩), (fun h => by cases h)⟩) ?_ ?_
    · simp (config := { maxSteps := 4000000 }) only [List.map, putAll, Act.put, InvE, List.setIfInBounds_toArray, List.set_cons_succ, List.set_cons_zero, Nat.reduceAdd]
      refine ⟨?_, ?_, ?_, ?_, ?_, ?_, ?_, ?_, ?_, ?_, ?_, ?_, trivial⟩
      all_goals
        intro L vs W hI hi hn hcl K hK
        rw [if_pos (by simp [Region.wanted])]
      · have HK := Lib.hid (fun v h => hK v W ⟨pv_upd hI.pv h, hI.s0, hI.s1⟩)
        clear hK hI hn hcl hi
        go_simp
        exact HK.out _ rfl
      · have HK := Lib.hid (fun v h => hK v W ⟨pv_upd hI.pv h, hI.s0, hI.s1⟩)
        clear hK hI hn hcl hi
        go_simp
        exact HK.out _ rfl
      · have HK := Lib.hid (fun v h => hK v W ⟨pv_upd hI.pv h, hI.s0, hI.s1⟩)
        clear hK hI hn hcl hi
        go_simp
        exact HK.out _ rfl
      · have r2 : vs 2 = .pointer (some ⟨g, 0, none⟩) := hI.pv 2 (hn 2 rfl)
        simp only [r2] at hK ⊢
        have HK := Lib.hid (fun v h => hK v W ⟨pv_upd hI.pv h, hI.s0, hI.s1⟩)
        clear hK hI hn hcl hi
        go_simp
        exact HK.out _ rfl
      · have r3 : vs 3 = .pointer (some ⟨g, 0, none⟩) := hI.pv 3 (hn 3 rfl)
        simp only [r3] at hK ⊢
        have HK := Lib.hid (fun v h => hK v W ⟨pv_upd hI.pv h, hI.s0, hI.s1⟩)
        clear hK hI hn hcl hi
        go_simp
        exact HK.out _ rfl
      · have r4 : vs 4 = .pointer (some ⟨g, 66, none⟩) := hI.pv 4 (hn 4 rfl)
        have hLn : L 11 = false := by
          cases h : L 11
          · rfl
          · exact absurd (hcl 6 _ rfl (hcl 10 _ rfl (hcl 11 _ rfl h 10 rfl) 6 rfl) 5 rfl) (Bool.eq_false_iff.1 hi)
        have HS := Lib.hid (hI.s0 hLn)
        obtain ⟨nn, hnn⟩ := HS.out
        have y0 : W.cell? ⟨g, 66, none⟩ = some (.int .i64 (m : Int)) := by rw [hnn]; exact HM.out
        clear hnn
        simp only [r4] at hK ⊢
        have HK := Lib.hid (fun v h => hK v W ⟨pv_upd hI.pv h, hI.s0, hI.s1⟩)
        clear hK hI hn hcl hi hLn
        go_simp
        exact HK.out _ rfl
      · have r1 : vs 1 = .pointer (some ⟨g, 0, none⟩) := hI.pv 1 (hn 1 rfl)
        have r5 : vs 5 = .int .i64 (m : Int) := hI.pv 5 (hn 5 rfl)
        have hLn : L 11 = false := by
          cases h : L 11
          · rfl
          · exact absurd (hcl 10 _ rfl (hcl 11 _ rfl h 10 rfl) 6 rfl) (Bool.eq_false_iff.1 hi)
        have HS := Lib.hid (hI.s0 hLn)
        simp only [r1, r5] at hK ⊢
        have HK := Lib.hid hK
        have HP := Lib.hid hI.pv
        have HLn := Lib.hid hLn
        clear hK hI hn hcl hi hLn
        go_simp
        go_at_call 94
        obtain ⟨nn, hnn⟩ := HS.out
        subst hnn
        refine (rat_any g k f m _ (by exact HSZ.out) (by exact HFI.out) hk1 hk2 hfk hm64).mono ?_
        rintro e w' ⟨rfl, mm, rfl⟩
        exact HK.out _ _ ⟨pv_upd HP.out HJ.out, fun _ => ⟨nn + mm, by rw [World.drewN_drewN]⟩, fun h => absurd h (Bool.eq_false_iff.1 HLn.out)⟩
      · have HK := Lib.hid (fun v h => hK v W ⟨pv_upd hI.pv h, hI.s0, hI.s1⟩)
        clear hK hI hn hcl hi
        go_simp
        exact HK.out _ rfl
      · have r0 : vs 0 = .pointer (some ⟨g, 0, none⟩) := hI.pv 0 (hn 0 rfl)
        simp only [r0] at hK ⊢
        have HK := Lib.hid (fun v h => hK v W ⟨pv_upd hI.pv h, hI.s0, hI.s1⟩)
        clear hK hI hn hcl hi
        go_simp
        exact HK.out _ rfl
      · have r8 : vs 8 = .pointer (some ⟨g, 0, none⟩) := hI.pv 8 (hn 8 rfl)
        simp only [r8] at hK ⊢
        have HK := Lib.hid (fun v h => hK v W ⟨pv_upd hI.pv h, hI.s0, hI.s1⟩)
        clear hK hI hn hcl hi
        go_simp
        exact HK.out _ rfl
      · have r9 : vs 9 = .pointer (some ⟨g, 0, none⟩) := hI.pv 9 (hn 9 rfl)
        have r6 : vs 6 = .int .i64 (j : Int) := hI.pv 6 (hn 6 rfl)
        simp only [r9, r6] at hK ⊢
        have HK := Lib.hid (fun v h => hK v W ⟨pv_upd hI.pv h, hI.s0, hI.s1⟩)
        clear hK hI hn hcl hi
        go_simp
        exact HK.out _ rfl
      · have r10 : vs 10 = .pointer (some ⟨g, j, none⟩) := hI.pv 10 (hn 10 rfl)
        have r7 : vs 7 = .int .i64 x := hI.pv 7 (hn 7 rfl)
        simp only [r10, r7] at hK ⊢
        have hs := hI.s0 hi
        obtain ⟨nn, rfl⟩ := hs
        have y0 : (w1.drewN nn).cell? ⟨g, j, none⟩ = some (vi old) := HO.out
        have f0 : (w1.drewN nn).frozen? ⟨g, j, none⟩ = false := HFZ.out
        have HK := Lib.hid (fun W' h => hK undef W' ⟨pv_upd hI.pv trivial, (fun q => absurd q (by simp [updB])), fun _ => h⟩)
        clear hK hI hn hcl hi
        go_simp
        exact HK.out _ ⟨nn, rfl⟩
    · intro vs W hI
      simp only [List.map, putAll, Act.put, List.setIfInBounds_toArray, List.set_cons_succ, List.set_cons_zero, Nat.reduceAdd]
      have hs1 := hI.s1 (by simp)
      have r0 : vs 0 = .pointer (some ⟨g, 0, none⟩) := hI.pv 0 (by simp)
      have r1 : vs 1 = .pointer (some ⟨g, 0, none⟩) := hI.pv 1 (by simp)
      have r2 : vs 2 = .pointer (some ⟨g, 0, none⟩) := hI.pv 2 (by simp)
      have r3 : vs 3 = .pointer (some ⟨g, 0, none⟩) := hI.pv 3 (by simp)
      have r4 : vs 4 = .pointer (some ⟨g, 66, none⟩) := hI.pv 4 (by simp)
      have r5 : vs 5 = .int .i64 (m : Int) := hI.pv 5 (by simp)
      have r6 : vs 6 = .int .i64 (j : Int) := hI.pv 6 (by simp)
      have r7 : vs 7 = .int .i64 x := hI.pv 7 (by simp)
      have r8 : vs 8 = .pointer (some ⟨g, 0, none⟩) := hI.pv 8 (by simp)
      have r9 : vs 9 = .pointer (some ⟨g, 0, none⟩) := hI.pv 9 (by simp)
      have r10 : vs 10 = .pointer (some ⟨g, j, none⟩) := hI.pv 10 (by simp)
      simp only [r0, r1, r2, r3, r4, r5, r6, r7, r8, r9, r10]
      clear hI r0 r1 r2 r3 r4 r5 r6 r7 r8 r9 r10
      obtain ⟨nn, rfl⟩ := hs1
      have e1 : ((w1.drewN nn).setCell ⟨g, j, none⟩ (vi x)).cell? ⟨g, 66, none⟩ = some (.int .i64 (m : Int)) := (World.cell?_setCell_other _ _ _ _ (by intro e; injection e with _ e _; omega)).trans HM.out
      go_wp2_with fail
      go_ret2
      refine ⟨0, ?_, ?_, ?_⟩
      rotate_left
      · have := HRI.out nn
        rw [← HEQ.out.2, ← HEQ.out.1] at this
        rw [HQ.out]
        exact ⟨_, _, this⟩
      · exact grown_trans HG1.out (grown_trans (grown_trans (grown_drewN _ _ _) (set_grown _ _ _ _)) (set_grown _ _ _ _))
      · rw [decide_eq_false HK.out]; rfl
end Go.Proofs.Ytkjjfidbmkpljaa
