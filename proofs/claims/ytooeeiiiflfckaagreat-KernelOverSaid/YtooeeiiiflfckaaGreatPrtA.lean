/- Several texts of this claim as one. -/
import Derived.Test.YtooeeiiiflfckaaGreatLibA
import Derived.Test.YtooeeiiiflfckaaGreatProg
import Derived.Test.YtooeeiiiflfckaaGreatTskA
import Derived.Test.YtooeeiiiflfckaaGreatChkA
import Derived.Deep.CutBlock
/- package ring. -/
set_option linter.unusedVariables false
set_option linter.unusedSimpArgs false
namespace Go.Proofs.YtooeeiiiflfckaaGreat
open Go.RowKit
def vi (x : Int) : Value := .int .i64 x
def ringCells (cs : List Int) (k f m : Nat) : List Value := cs.map vi ++ [vi k, vi f, vi m]
structure RingIs (W : World) (g : Nat) (k : Nat) (q cs : List Int) (f : Nat) : Prop where
 blk : W.heap[g]? = some (.cells (ringCells cs k f q.length).toArray 148 (0, 0))
 len : cs.length = 64
 k1 : 1 <= k
 k2 : k <= 64
 fk : f < k
 qk : q.length <= k
 at_ : ∀ i (h : i < q.length), cs[(f + i) % k]? = some q[i]
def RingAt (W : World) (g : Nat) (k : Nat) (q : List Int) : Prop := ∃ cs f, RingIs W g k q cs f
theorem RingIs.get {W : World} {g k : Nat} {q cs : List Int} {f : Nat} (h : RingIs W g k q cs f) {i : Nat} (hi : i < 64) : W.cell? ⟨g, i, none⟩ = some (vi (cs[i]'(by rw [h.len]; exact hi))) := by
 refine BlockIs.of h.blk i _ ?_
 have hl := h.len
 simp only [List.getElem?_toArray, ringCells]
 rw [List.getElem?_append_left (by rw [List.length_map]; omega), List.getElem?_map, List.getElem?_eq_getElem (by omega)]
 rfl
theorem RingIs.size {W : World} {g k : Nat} {q cs : List Int} {f : Nat} (h : RingIs W g k q cs f) : W.cell? ⟨g, 64, none⟩ = some (.int .i64 k) := by
 refine BlockIs.of h.blk 64 _ ?_
 have hl := h.len
 simp only [List.getElem?_toArray, ringCells]
 rw [List.getElem?_append_right (by rw [List.length_map]; omega), List.length_map, hl]
 rfl
theorem RingIs.first {W : World} {g k : Nat} {q cs : List Int} {f : Nat} (h : RingIs W g k q cs f) : W.cell? ⟨g, 65, none⟩ = some (.int .i64 f) := by
 refine BlockIs.of h.blk 65 _ ?_
 have hl := h.len
 simp only [List.getElem?_toArray, ringCells]
 rw [List.getElem?_append_right (by rw [List.length_map]; omega), List.length_map, hl]
 rfl
theorem RingIs.many {W : World} {g k : Nat} {q cs : List Int} {f : Nat} (h : RingIs W g k q cs f) : W.cell? ⟨g, 66, none⟩ = some (.int .i64 q.length) := by
 refine BlockIs.of h.blk 66 _ ?_
 have hl := h.len
 simp only [List.getElem?_toArray, ringCells]
 rw [List.getElem?_append_right (by rw [List.length_map]; omega), List.length_map, hl]
 rfl
theorem RingIs.keep {W W' : World} {g k : Nat} {q cs : List Int} {f : Nat} (h : RingIs W g k q cs f) (hb : W'.heap[g]? = W.heap[g]?) : RingIs W' g k q cs f :=
 ⟨hb.trans h.blk, h.len, h.k1, h.k2, h.fk, h.qk, h.at_⟩
theorem ring_set {W : World} {g k f m : Nat} {cs : List Int} {t : TypeId} (h : W.heap[g]? = some (.cells (ringCells cs k f m).toArray t (0, 0))) (hl : cs.length = 64) {j : Nat} (hj : j < 64) (x : Int) :
  (W.setCell ⟨g, j, none⟩ (vi x)).heap[g]? = some (.cells (ringCells (cs.set j x) k f m).toArray t (0, 0)) := by
 have := blk_set h j (vi x)
 simp only [List.setIfInBounds_toArray, ringCells] at this |-
 rwa [List.set_append_left _ _ (by rw [List.length_map]; omega), <- List.map_set] at this
theorem ring_first {W : World} {g k f m : Nat} {cs : List Int} {t : TypeId} (h : W.heap[g]? = some (.cells (ringCells cs k f m).toArray t (0, 0))) (hl : cs.length = 64) (f' : Nat) :
  (W.setCell ⟨g, 65, none⟩ (vi f')).heap[g]? = some (.cells (ringCells cs k f' m).toArray t (0, 0)) := by
 have := blk_set h 65 (vi f')
 simp only [List.setIfInBounds_toArray, ringCells] at this |-
 rwa [List.set_append_right _ _ (by rw [List.length_map]; omega), List.length_map, hl] at this
theorem ring_many {W : World} {g k f m : Nat} {cs : List Int} {t : TypeId} (h : W.heap[g]? = some (.cells (ringCells cs k f m).toArray t (0, 0))) (hl : cs.length = 64) (m' : Nat) :
  (W.setCell ⟨g, 66, none⟩ (vi m')).heap[g]? = some (.cells (ringCells cs k f m').toArray t (0, 0)) := by
 have := blk_set h 66 (vi m')
 simp only [List.setIfInBounds_toArray, ringCells] at this |-
 rwa [List.set_append_right _ _ (by rw [List.length_map]; omega), List.length_map, hl] at this
set_option maxRecDepth 100000 in
set_option maxHeartbeats 1000000 in
theorem rat_any (g k f i : Nat) (w : World) (hs : w.cell? ⟨g, 64, none⟩ = some (.int .i64 k)) (hf : w.cell? ⟨g, 65, none⟩ = some (.int .i64 f)) (hk : 1 <= k) (hk2 : k <= 64) (hfk : f < k) (hi : i <= 64) :
  Calls Tryz.prog 104 #[.pointer (some ⟨g, 0, none⟩), .int .i64 i] w fun e w' => e = .returned (.int .i64 ((f + i) % k : Nat)) /\ ∃ m, w' = w.drewN m := by
 have s1 : IntKind.i64.wrap ((f : Int) + (i : Int)) = ((f + i : Nat) : Int) := by rw [IntKind.wrap_i64]; omega
 have s2 : ((f + i : Nat) : Int).tmod (k : Int) = (((f + i) % k : Nat) : Int) := by rw [Int.tmod_eq_emod_of_nonneg (by omega)]; rfl
 have s3 : ¬ (k : Int) = 0 := by omega
 have hlt : (f + i) % k < 64 := Nat.lt_of_lt_of_le (Nat.mod_lt _ (by omega)) hk2
 have s4 : IntKind.i64.wrap (((f + i) % k : Nat) : Int) = (((f + i) % k : Nat) : Int) := by rw [IntKind.wrap_i64]; omega
 go_enter Tryz.func104, Tryz.ntmps104
 go_wp2_with fail
 go_quiet (fail)
 go_wp2_with fail
 go_ret
 exact ⟨rfl, _, rfl⟩
theorem modc {f k i : Nat} (hf : f < k) (hi : i <= k) : (f + i) % k = if f + i < k then f + i else f + i - k := by
 split
 ·rename_i h; exact Nat.mod_eq_of_lt h
 ·rename_i h
  rw [Nat.mod_eq_sub_mod (by omega)]
  exact Nat.mod_eq_of_lt (by omega)
theorem modc_ne {f k i j : Nat} (hf : f < k) (hj : j < k) (hij : i < j) : (f + i) % k ≠ (f + j) % k := by
 rw [modc hf (by omega), modc hf (by omega)]
 split <;> split <;> omega
theorem modc_one {f k i : Nat} (hf : f < k) : ((f + 1) % k + i) % k = (f + (i + 1)) % k := by
 rw [Nat.mod_add_mod]
 congr 1
 omega
theorem grown_drewN (w : World) (n : Nat) (r : Option Nat) : w.grownBy (w.drewN n) r := ⟨rfl, rfl, rfl, Nat.le_refl _, fun _ _ _ => rfl⟩
def PuV (g j m : Nat) (x : Int) (i : Nat) (v : Value) : Prop := match i with
 | 0 => v = .pointer (some ⟨g, 0, none⟩)
 | 1 => v = .pointer (some ⟨g, 0, none⟩)
 | 2 => v = .pointer (some ⟨g, 0, none⟩)
 | 3 => v = .pointer (some ⟨g, 0, none⟩)
 | 4 => v = .pointer (some ⟨g, 66, none⟩)
 | 5 => v = .int .i64 (m : Int)
 | 6 => v = .int .i64 (j : Int)
 | 7 => v = .int .i64 x
 | 8 => v = .pointer (some ⟨g, 0, none⟩)
 | 9 => v = .pointer (some ⟨g, 0, none⟩)
 | 10 => v = .pointer (some ⟨g, j, none⟩)
 | _ => True
theorem RingIs.got {W : World} {g k : Nat} {q cs : List Int} {f : Nat} (h : RingIs W g k q cs f) {i : Nat} {y : Int} (hy : cs[i]? = some y) : W.cell? ⟨g, i, none⟩ = some (.int .i64 y) := by
 obtain ⟨hi, e⟩ := List.getElem?_eq_some_iff.1 hy
 have := h.get (i := i) (by rw [<- h.len]; exact hi)
 rw [e] at this
 exact this
theorem RingAt.keep {W W' : World} {g k : Nat} {q : List Int} (h : RingAt W g k q) (hb : W'.heap[g]? = W.heap[g]?) : RingAt W' g k q := by
 obtain ⟨cs, f, h⟩ := h
 exact ⟨cs, f, h.keep hb⟩
theorem RingAt.lt {W : World} {g k : Nat} {q : List Int} (h : RingAt W g k q) : g < W.heap.size := by
 obtain ⟨cs, f, h⟩ := h
 exact lt_of_block h.blk
theorem RingAt.len {W : World} {g k : Nat} {q : List Int} (h : RingAt W g k q) : q.length <= k /\ 1 <= k /\ k <= 64 := by
 obtain ⟨cs, f, h⟩ := h
 exact ⟨h.qk, h.k1, h.k2⟩
theorem RingIs.popped {w : World} {g k f : Nat} {y : Int} {r cs : List Int} (h : RingIs w g k (y :: r) cs f) (n : Nat) :
  RingIs (((w.drewN n).setCell ⟨g, 65, none⟩ (vi ((f + 1) % k : Nat))).setCell ⟨g, 66, none⟩ (vi r.length)) g k r cs ((f + 1) % k) := by
 refine ⟨ring_many (ring_first (show (w.drewN n).heap[g]? = _ from h.blk) h.len _) h.len _, h.len, h.k1, h.k2, Nat.mod_lt _ (by have := h.k1; omega), by have := h.qk; simp at this; omega, fun i hi => ?_⟩
 have := h.at_ (i + 1) (by simpa using hi)
 rw [modc_one h.fk]
 simpa using this
theorem RingIs.pushed {w : World} {g k f : Nat} {q cs : List Int} (h : RingIs w g k q cs f) (hq : q.length < k) (x : Int) (n : Nat) :
  RingIs (((w.drewN n).setCell ⟨g, (f + q.length) % k, none⟩ (vi x)).setCell ⟨g, 66, none⟩ (vi (q.length + 1 : Nat))) g k (q ++ [x]) (cs.set ((f + q.length) % k) x) f := by
 have hm : (f + q.length) % k < k := Nat.mod_lt _ (by omega)
 have hk2 := h.k2
 refine ⟨?_, by rw [List.length_set]; exact h.len, h.k1, h.k2, h.fk, by simp; omega, fun i hi => ?_⟩
 ·have := ring_many (ring_set (show (w.drewN n).heap[g]? = _ from h.blk) h.len (j := (f + q.length) % k) (by omega) x) (by rw [List.length_set]; exact h.len) (q.length + 1)
  rw [List.length_append]
  exact this
 ·rw [List.length_append] at hi
  by_cases e : i = q.length
  ·subst e
   rw [List.getElem?_set_self (by rw [h.len]; omega)]
   simp
  ·have hi' : i < q.length := by simp at hi; omega
   rw [List.getElem?_set_ne (fun e2 => modc_ne h.fk hq hi' e2.symm), List.getElem_append_left hi']
   exact h.at_ i hi'
def pushQ (k : Nat) (q : List Int) (x : Int) : List Int := if q.length = k then q.tail ++ [x] else q ++ [x]
set_option maxRecDepth 100000 in
set_option maxHeartbeats 4000000 in
theorem ring_pop (g k : Nat) (q : List Int) (w : World) (h : RingAt w g k q) :
  Calls Tryz.prog 103 #[.pointer (some ⟨g, 0, none⟩)] w fun e w' => e = .returned (.tuple #[vi (q.headD 0), .bool (!q.isEmpty)]) /\ RingAt w' g k q.tail /\ w.grownBy w' (some g) := by
 obtain ⟨cs, f, h⟩ := h
 have HH := Lib.hid h
 have x1 := h.many
 have x2 := h.first
 have hf64 : f < 64 := by have := h.fk; have := h.k2; omega
 have c1 : (f : Int) < 64 := by omega
 go_enter Tryz.func103, Tryz.ntmps103
 rcases q with _ | ⟨y, r⟩
 ·clear h
  go_wp2_with fail
  go_ret2
  exact ⟨rfl, ⟨cs, f, HH.out⟩, World.grownBy.refl _ _⟩
 ·have hy : cs[f]? = some y := by
   have := h.at_ 0 (by simp)
   rwa [Nat.add_zero, Nat.mod_eq_of_lt h.fk] at this
  have x3 := h.got hy
  have hq64 : r.length < 64 := by have h1 := h.qk; have h2 := h.k2; simp only [List.length_cons] at h1; omega
  obtain ⟨M, hM⟩ : ∃ M, M = (y :: r).length := ⟨_, rfl⟩
  obtain ⟨M1, hM1⟩ : ∃ M1, M1 = r.length := ⟨_, rfl⟩
  rw [<- hM] at x1
  have hMM : M = M1 + 1 := by rw [hM, hM1]; rfl
  have c2 : ((M : Int) == 0) = false := by rw [beq_eq_false_iff_ne]; omega
  have s5 : IntKind.i64.wrap ((M : Int) - 1) = (M1 : Int) := by rw [IntKind.wrap_i64]; omega
  obtain ⟨j, hj⟩ : ∃ j, j = (f + 1) % k := ⟨_, rfl⟩
  have HE := Lib.hid (And.intro hy (And.intro hM1 hj))
  have f1 := thaw h.blk 65
  have f2 := thaw h.blk 66
  clear h hy hM hM1 hMM
  go_wp2_with fail
  go_quiet (fail)
  go_wp2_with fail
  refine (rat_any g k f 1 _ (by exact HH.out.size) (by exact HH.out.first) HH.out.k1 HH.out.k2 HH.out.fk (by omega)).mono ?_
  rintro e w1 ⟨rfl, m, rfl⟩
  rw [<- hj]
  clear hj
  go_wp2_with fail
  go_ret2
  refine ⟨rfl, ⟨cs, j, ?_⟩, ?_⟩
  ·rw [HE.out.2.2, HE.out.2.1]
   exact HH.out.popped _
  ·exact grown_trans (grown_trans (grown_drewN _ _ _) (set_grown _ _ _ _)) (set_grown _ _ _ _)
set_option maxRecDepth 100000 in
set_option maxHeartbeats 4000000 in
theorem ring_push (g k : Nat) (q : List Int) (x : Int) (w : World) (h : RingAt w g k q) :
  Calls Tryz.prog 69 #[.pointer (some ⟨g, 0, none⟩), .int .i64 x] w fun e w' => ∃ old, e = .returned (.tuple #[vi old, .bool (decide (q.length = k))]) /\ RingAt w' g k (pushQ k q x) /\ w.grownBy w' (some g) := by
 have HL := Lib.hid h.len
 obtain ⟨cs, f, h⟩ := id h
 have HR := Lib.hid (show RingAt w g k q from ⟨cs, f, h⟩)
 have x1 := h.many
 have x2 := h.size
 obtain ⟨M, hM⟩ : ∃ M, M = q.length := ⟨_, rfl⟩
 rw [<- hM] at x1
 go_enter Tryz.func69, Tryz.ntmps69
 by_cases hk : q.length = k
 ·have c1 : ((M : Int) == (k : Int)) = true := by rw [beq_iff_eq]; omega
  have HK := Lib.hid hk
  have HM := Lib.hid hM
  clear h hM hk
  go_wp2_with fail
  go_quiet (fail)
  go_wp2_with fail
  refine (ring_pop g k q _ (HR.out.keep (by rfl))).mono ?_
  rintro e w1 ⟨rfl, hr, hg⟩
  have HG1 := Lib.hid (grown_trans (grown_drewN w _ _) hg)
  obtain ⟨cs1, f1, hr⟩ := hr
  have hql : q.tail.length = k - 1 := by rw [List.length_tail, HK.out]
  have hqt : pushQ k q x = q.tail ++ [x] := by unfold pushQ; rw [if_pos HK.out]
  have HQ := Lib.hid (And.intro hql hqt)
  clear hg hql hqt
  unfold vi
  have hm : q.tail.length < k := by rw [HQ.out.1]; have := HL.out; omega
  obtain ⟨m, hmm⟩ : ∃ m, m = q.tail.length := ⟨_, rfl⟩
  obtain ⟨j, hj⟩ : ∃ j, j = (f1 + m) % k := ⟨_, rfl⟩
  have hk1 := hr.k1
  have hk2 := hr.k2
  have hfk := hr.fk
  have hm64 : m <= 64 := by omega
  have hj64 : j < 64 := by rw [hj]; have := Nat.mod_lt (f1 + m) (show 0 < k by omega); omega
  obtain ⟨old, hold⟩ : ∃ old, cs1[j]? = some old := ⟨_, List.getElem?_eq_getElem (by rw [hr.len]; exact hj64)⟩
  have HM := Lib.hid (show w1.cell? ⟨g, 66, none⟩ = some (.int .i64 (m : Int)) by rw [hmm]; exact hr.many)
  have HSZ := Lib.hid hr.size
  have HFI := Lib.hid hr.first
  have HO := Lib.hid (hr.got hold)
  have HFZ := Lib.hid (thaw hr.blk j)
  have HJ := Lib.hid (show Value.int .i64 (((f1 + m) % k : Nat) : Int) = .int .i64 (j : Int) by rw [hj])
  have HRI := Lib.hid (hr.pushed hm x)
  have hff := thaw hr.blk 66
  have HEQ := Lib.hid (And.intro hj hmm)
  have s7 : IntKind.i64.wrap ((m : Int) + 1) = ((m + 1 : Nat) : Int) := by rw [IntKind.wrap_i64]; omega
  have d1 : (j : Int) < 64 := by omega
  clear hm hold hj hmm
  go_wp2_with fail
  refine region_inv0 rfl (by kernel_rfl) (PInv (PuV g j m x) 11 (fun W => ∃ n, W = w1.drewN n) (fun W => ∃ n, W = (w1.drewN n).setCell ⟨g, j, none⟩ (vi x))) (fun vs h0 => ⟨(fun i h => by cases h), (fun _ => ⟨1, rfl⟩), (fun h => by cases h)⟩) ?_ ?_
  ·simp (config := { maxSteps := 4000000 }) only [List.map, putAll, Act.put, InvE, List.setIfInBounds_toArray, List.set_cons_succ, List.set_cons_zero, Nat.reduceAdd]
   refine ⟨?_, ?_, ?_, ?_, ?_, ?_, ?_, ?_, ?_, ?_, ?_, ?_, trivial⟩
   all_goals
    intro L vs W hI hi hn hcl K hK
    rw [if_pos (by simp [Region.wanted])]
   ·have HK := Lib.hid (fun v h => hK v W ⟨pv_upd hI.pv h, hI.s0, hI.s1⟩)
    clear hK hI hn hcl hi
    go_simp
    exact HK.out _ rfl
   ·have HK := Lib.hid (fun v h => hK v W ⟨pv_upd hI.pv h, hI.s0, hI.s1⟩)
    clear hK hI hn hcl hi
    go_simp
    exact HK.out _ rfl
   ·have HK := Lib.hid (fun v h => hK v W ⟨pv_upd hI.pv h, hI.s0, hI.s1⟩)
    clear hK hI hn hcl hi
    go_simp
    exact HK.out _ rfl
   ·have r2 : vs 2 = _ := hI.pv 2 (hn 2 rfl)
    simp only [r2] at hK |-
    have HK := Lib.hid (fun v h => hK v W ⟨pv_upd hI.pv h, hI.s0, hI.s1⟩)
    clear hK hI hn hcl hi
    go_simp
    exact HK.out _ rfl
   ·have r3 : vs 3 = _ := hI.pv 3 (hn 3 rfl)
    simp only [r3] at hK |-
    have HK := Lib.hid (fun v h => hK v W ⟨pv_upd hI.pv h, hI.s0, hI.s1⟩)
    clear hK hI hn hcl hi
    go_simp
    exact HK.out _ rfl
   ·have r4 : vs 4 = _ := hI.pv 4 (hn 4 rfl)
    have hLn : L 11 = false := by
     cases h : L 11
     ·rfl
     ·exact absurd (hcl 6 _ rfl (hcl 10 _ rfl (hcl 11 _ rfl h 10 rfl) 6 rfl) 5 rfl) (Bool.eq_false_iff.1 hi)
    have HS := Lib.hid (hI.s0 hLn)
    obtain ⟨nn, hnn⟩ := HS.out
    have y0 : W.cell? ⟨g, 66, none⟩ = some (.int .i64 (m : Int)) := by rw [hnn]; exact HM.out
    clear hnn
    simp only [r4] at hK |-
    have HK := Lib.hid (fun v h => hK v W ⟨pv_upd hI.pv h, hI.s0, hI.s1⟩)
    clear hK hI hn hcl hi hLn
    go_simp
    exact HK.out _ rfl
   ·have r1 : vs 1 = _ := hI.pv 1 (hn 1 rfl)
    have r5 : vs 5 = _ := hI.pv 5 (hn 5 rfl)
    have hLn : L 11 = false := by
     cases h : L 11
     ·rfl
     ·exact absurd (hcl 10 _ rfl (hcl 11 _ rfl h 10 rfl) 6 rfl) (Bool.eq_false_iff.1 hi)
    have HS := Lib.hid (hI.s0 hLn)
    simp only [r1, r5] at hK |-
    have HK := Lib.hid hK
    have HP := Lib.hid hI.pv
    have HLn := Lib.hid hLn
    clear hK hI hn hcl hi hLn
    go_simp
    go_at_call 104
    obtain ⟨nn, hnn⟩ := HS.out
    subst hnn
    refine (rat_any g k f1 m _ (by exact HSZ.out) (by exact HFI.out) hk1 hk2 hfk hm64).mono ?_
    rintro e w' ⟨rfl, mm, rfl⟩
    exact HK.out _ _ ⟨pv_upd HP.out HJ.out, fun _ => ⟨nn + mm, by rw [World.drewN_drewN]⟩, fun h => absurd h (Bool.eq_false_iff.1 HLn.out)⟩
   ·have HK := Lib.hid (fun v h => hK v W ⟨pv_upd hI.pv h, hI.s0, hI.s1⟩)
    clear hK hI hn hcl hi
    go_simp
    exact HK.out _ rfl
   ·have r0 : vs 0 = _ := hI.pv 0 (hn 0 rfl)
    simp only [r0] at hK |-
    have HK := Lib.hid (fun v h => hK v W ⟨pv_upd hI.pv h, hI.s0, hI.s1⟩)
    clear hK hI hn hcl hi
    go_simp
    exact HK.out _ rfl
   ·have r8 : vs 8 = _ := hI.pv 8 (hn 8 rfl)
    simp only [r8] at hK |-
    have HK := Lib.hid (fun v h => hK v W ⟨pv_upd hI.pv h, hI.s0, hI.s1⟩)
    clear hK hI hn hcl hi
    go_simp
    exact HK.out _ rfl
   ·have r9 : vs 9 = _ := hI.pv 9 (hn 9 rfl)
    have r6 : vs 6 = _ := hI.pv 6 (hn 6 rfl)
    simp only [r9, r6] at hK |-
    have HK := Lib.hid (fun v h => hK v W ⟨pv_upd hI.pv h, hI.s0, hI.s1⟩)
    clear hK hI hn hcl hi
    go_simp
    exact HK.out _ rfl
   ·have r10 : vs 10 = _ := hI.pv 10 (hn 10 rfl)
    have r7 : vs 7 = _ := hI.pv 7 (hn 7 rfl)
    simp only [r10, r7] at hK |-
    have hs := hI.s0 hi
    obtain ⟨nn, rfl⟩ := hs
    have y0 : (w1.drewN nn).cell? ⟨g, j, none⟩ = some (vi old) := HO.out
    have f0 : (w1.drewN nn).frozen? ⟨g, j, none⟩ = false := HFZ.out
    have HK := Lib.hid (fun W' h => hK undef W' ⟨pv_upd hI.pv trivial, (fun q => absurd q (by simp [updB])), fun _ => h⟩)
    clear hK hI hn hcl hi
    go_simp
    exact HK.out _ ⟨nn, rfl⟩
  ·intro vs W hI
   simp only [List.map, putAll, Act.put, List.setIfInBounds_toArray, List.set_cons_succ, List.set_cons_zero, Nat.reduceAdd]
   have hs1 := hI.s1 (by simp)
   have r0 : vs 0 = _ := hI.pv 0 (by simp)
   have r1 : vs 1 = _ := hI.pv 1 (by simp)
   have r2 : vs 2 = _ := hI.pv 2 (by simp)
   have r3 : vs 3 = _ := hI.pv 3 (by simp)
   have r4 : vs 4 = _ := hI.pv 4 (by simp)
   have r5 : vs 5 = _ := hI.pv 5 (by simp)
   have r6 : vs 6 = _ := hI.pv 6 (by simp)
   have r7 : vs 7 = _ := hI.pv 7 (by simp)
   have r8 : vs 8 = _ := hI.pv 8 (by simp)
   have r9 : vs 9 = _ := hI.pv 9 (by simp)
   have r10 : vs 10 = _ := hI.pv 10 (by simp)
   simp only [r0, r1, r2, r3, r4, r5, r6, r7, r8, r9, r10]
   clear hI r0 r1 r2 r3 r4 r5 r6 r7 r8 r9 r10
   obtain ⟨nn, rfl⟩ := hs1
   have e1 : ((w1.drewN nn).setCell ⟨g, j, none⟩ (vi x)).cell? ⟨g, 66, none⟩ = some (.int .i64 (m : Int)) := (World.cell?_setCell_other _ _ _ _ (by intro e; injection e with _ e _; omega)).trans HM.out
   go_wp2_with fail
   go_ret2
   refine ⟨q.headD 0, ?_, ?_, ?_⟩
   rotate_left
   ·have := HRI.out nn
    rw [<- HEQ.out.2, <- HEQ.out.1] at this
    rw [HQ.out.2]
    exact ⟨_, _, this⟩
   ·exact grown_trans HG1.out (grown_trans (grown_trans (grown_drewN _ _ _) (set_grown _ _ _ _)) (set_grown _ _ _ _))
   ·rw [decide_eq_true HK.out]; simp [vi]
 ·have c1 : ((M : Int) == (k : Int)) = false := by rw [beq_eq_false_iff_ne]; omega
  have HK := Lib.hid hk
  have hqt : pushQ k q x = q ++ [x] := by unfold pushQ; rw [if_neg hk]
  have HQ := Lib.hid hqt
  have hqk : q.length < k := by have := HL.out; omega
  have HS := Lib.hid h
  clear h hM hk hqt
  go_wp2_with fail
  go_quiet (fail)
  obtain ⟨w1, hw1⟩ : ∃ w1, w1 = w.drewN nq := ⟨_, rfl⟩
  have hr : RingIs w1 g k q cs f := HS.out.keep (by rw [hw1]; rfl)
  have HG1 := Lib.hid (show w.grownBy w1 (some g) by rw [hw1]; exact grown_drewN _ _ _)
  rw [<- hw1]
  clear hw1 x1 x2
  have hm : q.length < k := by exact hqk
  obtain ⟨m, hmm⟩ : ∃ m, m = q.length := ⟨_, rfl⟩
  obtain ⟨j, hj⟩ : ∃ j, j = (f + m) % k := ⟨_, rfl⟩
  have hk1 := hr.k1
  have hk2 := hr.k2
  have hfk := hr.fk
  have hm64 : m <= 64 := by omega
  have hj64 : j < 64 := by rw [hj]; have := Nat.mod_lt (f + m) (show 0 < k by omega); omega
  obtain ⟨old, hold⟩ : ∃ old, cs[j]? = some old := ⟨_, List.getElem?_eq_getElem (by rw [hr.len]; exact hj64)⟩
  have HM := Lib.hid (show w1.cell? ⟨g, 66, none⟩ = some (.int .i64 (m : Int)) by rw [hmm]; exact hr.many)
  have HSZ := Lib.hid hr.size
  have HFI := Lib.hid hr.first
  have HO := Lib.hid (hr.got hold)
  have HFZ := Lib.hid (thaw hr.blk j)
  have HJ := Lib.hid (show Value.int .i64 (((f + m) % k : Nat) : Int) = .int .i64 (j : Int) by rw [hj])
  have HRI := Lib.hid (hr.pushed hm x)
  have hff := thaw hr.blk 66
  have HEQ := Lib.hid (And.intro hj hmm)
  have s7 : IntKind.i64.wrap ((m : Int) + 1) = ((m + 1 : Nat) : Int) := by rw [IntKind.wrap_i64]; omega
  have d1 : (j : Int) < 64 := by omega
  clear hm hold hj hmm
  go_wp2_with fail
  refine region_inv0 rfl (by kernel_rfl) (PInv (PuV g j m x) 11 (fun W => ∃ n, W = w1.drewN n) (fun W => ∃ n, W = (w1.drewN n).setCell ⟨g, j, none⟩ (vi x))) (fun vs h0 => ⟨(fun i h => by cases h), (fun _ => ⟨1, rfl⟩), (fun h => by cases h)⟩) ?_ ?_
  ·simp (config := { maxSteps := 4000000 }) only [List.map, putAll, Act.put, InvE, List.setIfInBounds_toArray, List.set_cons_succ, List.set_cons_zero, Nat.reduceAdd]
   refine ⟨?_, ?_, ?_, ?_, ?_, ?_, ?_, ?_, ?_, ?_, ?_, ?_, trivial⟩
   all_goals
    intro L vs W hI hi hn hcl K hK
    rw [if_pos (by simp [Region.wanted])]
   ·have HK := Lib.hid (fun v h => hK v W ⟨pv_upd hI.pv h, hI.s0, hI.s1⟩)
    clear hK hI hn hcl hi
    go_simp
    exact HK.out _ rfl
   ·have HK := Lib.hid (fun v h => hK v W ⟨pv_upd hI.pv h, hI.s0, hI.s1⟩)
    clear hK hI hn hcl hi
    go_simp
    exact HK.out _ rfl
   ·have HK := Lib.hid (fun v h => hK v W ⟨pv_upd hI.pv h, hI.s0, hI.s1⟩)
    clear hK hI hn hcl hi
    go_simp
    exact HK.out _ rfl
   ·have r2 : vs 2 = _ := hI.pv 2 (hn 2 rfl)
    simp only [r2] at hK |-
    have HK := Lib.hid (fun v h => hK v W ⟨pv_upd hI.pv h, hI.s0, hI.s1⟩)
    clear hK hI hn hcl hi
    go_simp
    exact HK.out _ rfl
   ·have r3 : vs 3 = _ := hI.pv 3 (hn 3 rfl)
    simp only [r3] at hK |-
    have HK := Lib.hid (fun v h => hK v W ⟨pv_upd hI.pv h, hI.s0, hI.s1⟩)
    clear hK hI hn hcl hi
    go_simp
    exact HK.out _ rfl
   ·have r4 : vs 4 = _ := hI.pv 4 (hn 4 rfl)
    have hLn : L 11 = false := by
     cases h : L 11
     ·rfl
     ·exact absurd (hcl 6 _ rfl (hcl 10 _ rfl (hcl 11 _ rfl h 10 rfl) 6 rfl) 5 rfl) (Bool.eq_false_iff.1 hi)
    have HS := Lib.hid (hI.s0 hLn)
    obtain ⟨nn, hnn⟩ := HS.out
    have y0 : W.cell? ⟨g, 66, none⟩ = some (.int .i64 (m : Int)) := by rw [hnn]; exact HM.out
    clear hnn
    simp only [r4] at hK |-
    have HK := Lib.hid (fun v h => hK v W ⟨pv_upd hI.pv h, hI.s0, hI.s1⟩)
    clear hK hI hn hcl hi hLn
    go_simp
    exact HK.out _ rfl
   ·have r1 : vs 1 = _ := hI.pv 1 (hn 1 rfl)
    have r5 : vs 5 = _ := hI.pv 5 (hn 5 rfl)
    have hLn : L 11 = false := by
     cases h : L 11
     ·rfl
     ·exact absurd (hcl 10 _ rfl (hcl 11 _ rfl h 10 rfl) 6 rfl) (Bool.eq_false_iff.1 hi)
    have HS := Lib.hid (hI.s0 hLn)
    simp only [r1, r5] at hK |-
    have HK := Lib.hid hK
    have HP := Lib.hid hI.pv
    have HLn := Lib.hid hLn
    clear hK hI hn hcl hi hLn
    go_simp
    go_at_call 104
    obtain ⟨nn, hnn⟩ := HS.out
    subst hnn
    refine (rat_any g k f m _ (by exact HSZ.out) (by exact HFI.out) hk1 hk2 hfk hm64).mono ?_
    rintro e w' ⟨rfl, mm, rfl⟩
    exact HK.out _ _ ⟨pv_upd HP.out HJ.out, fun _ => ⟨nn + mm, by rw [World.drewN_drewN]⟩, fun h => absurd h (Bool.eq_false_iff.1 HLn.out)⟩
   ·have HK := Lib.hid (fun v h => hK v W ⟨pv_upd hI.pv h, hI.s0, hI.s1⟩)
    clear hK hI hn hcl hi
    go_simp
    exact HK.out _ rfl
   ·have r0 : vs 0 = _ := hI.pv 0 (hn 0 rfl)
    simp only [r0] at hK |-
    have HK := Lib.hid (fun v h => hK v W ⟨pv_upd hI.pv h, hI.s0, hI.s1⟩)
    clear hK hI hn hcl hi
    go_simp
    exact HK.out _ rfl
   ·have r8 : vs 8 = _ := hI.pv 8 (hn 8 rfl)
    simp only [r8] at hK |-
    have HK := Lib.hid (fun v h => hK v W ⟨pv_upd hI.pv h, hI.s0, hI.s1⟩)
    clear hK hI hn hcl hi
    go_simp
    exact HK.out _ rfl
   ·have r9 : vs 9 = _ := hI.pv 9 (hn 9 rfl)
    have r6 : vs 6 = _ := hI.pv 6 (hn 6 rfl)
    simp only [r9, r6] at hK |-
    have HK := Lib.hid (fun v h => hK v W ⟨pv_upd hI.pv h, hI.s0, hI.s1⟩)
    clear hK hI hn hcl hi
    go_simp
    exact HK.out _ rfl
   ·have r10 : vs 10 = _ := hI.pv 10 (hn 10 rfl)
    have r7 : vs 7 = _ := hI.pv 7 (hn 7 rfl)
    simp only [r10, r7] at hK |-
    have hs := hI.s0 hi
    obtain ⟨nn, rfl⟩ := hs
    have y0 : (w1.drewN nn).cell? ⟨g, j, none⟩ = some (vi old) := HO.out
    have f0 : (w1.drewN nn).frozen? ⟨g, j, none⟩ = false := HFZ.out
    have HK := Lib.hid (fun W' h => hK undef W' ⟨pv_upd hI.pv trivial, (fun q => absurd q (by simp [updB])), fun _ => h⟩)
    clear hK hI hn hcl hi
    go_simp
    exact HK.out _ ⟨nn, rfl⟩
  ·intro vs W hI
   simp only [List.map, putAll, Act.put, List.setIfInBounds_toArray, List.set_cons_succ, List.set_cons_zero, Nat.reduceAdd]
   have hs1 := hI.s1 (by simp)
   have r0 : vs 0 = _ := hI.pv 0 (by simp)
   have r1 : vs 1 = _ := hI.pv 1 (by simp)
   have r2 : vs 2 = _ := hI.pv 2 (by simp)
   have r3 : vs 3 = _ := hI.pv 3 (by simp)
   have r4 : vs 4 = _ := hI.pv 4 (by simp)
   have r5 : vs 5 = _ := hI.pv 5 (by simp)
   have r6 : vs 6 = _ := hI.pv 6 (by simp)
   have r7 : vs 7 = _ := hI.pv 7 (by simp)
   have r8 : vs 8 = _ := hI.pv 8 (by simp)
   have r9 : vs 9 = _ := hI.pv 9 (by simp)
   have r10 : vs 10 = _ := hI.pv 10 (by simp)
   simp only [r0, r1, r2, r3, r4, r5, r6, r7, r8, r9, r10]
   clear hI r0 r1 r2 r3 r4 r5 r6 r7 r8 r9 r10
   obtain ⟨nn, rfl⟩ := hs1
   have e1 : ((w1.drewN nn).setCell ⟨g, j, none⟩ (vi x)).cell? ⟨g, 66, none⟩ = some (.int .i64 (m : Int)) := (World.cell?_setCell_other _ _ _ _ (by intro e; injection e with _ e _; omega)).trans HM.out
   go_wp2_with fail
   go_ret2
   refine ⟨0, ?_, ?_, ?_⟩
   rotate_left
   ·have := HRI.out nn
    rw [<- HEQ.out.2, <- HEQ.out.1] at this
    rw [HQ.out]
    exact ⟨_, _, this⟩
   ·exact grown_trans HG1.out (grown_trans (grown_trans (grown_drewN _ _ _) (set_grown _ _ _ _)) (set_grown _ _ _ _))
   ·rw [decide_eq_false HK.out]; rfl
end Go.Proofs.YtooeeiiiflfckaaGreat
/- package ring: All (printed by gen17b.py). -/
namespace Go.Proofs.YtooeeiiiflfckaaGreat
open Go.RowKit
def AlV (r : Value) (g i j : Nat) (y : Int) (a : Nat) (v : Value) : Prop := match a with
 | 0 => v = r
 | 1 => v = .pointer (some ⟨g, 0, none⟩)
 | 2 => v = .pointer (some ⟨g, 0, none⟩)
 | 3 => v = .int .i64 (i : Int)
 | 4 => v = .int .i64 (j : Int)
 | 5 => v = .pointer (some ⟨g, 0, none⟩)
 | 6 => v = .pointer (some ⟨g, 0, none⟩)
 | 7 => v = .pointer (some ⟨g, j, none⟩)
 | 8 => v = .int .i64 y
 | _ => True
set_option maxRecDepth 100000 in
set_option maxHeartbeats 4000000 in
theorem ring_all (g k : Nat) (q : List Int) (w : World) (h : RingAt w g k q) :
  Calls Tryz.prog 76 #[.pointer (some ⟨g, 0, none⟩)] w fun e w' => ∃ v, e = .returned v /\ IntRow w' w.heap.size v q /\ Below w.heap.size w w' := by
 obtain ⟨cs, f, h⟩ := h
 have HH := Lib.hid h
 have x1 := h.many
 have hqk := h.qk
 have hk1 := h.k1
 have hk2 := h.k2
 have hfk := h.fk
 have HSZ := Lib.hid h.size
 have HFI := Lib.hid h.first
 clear h
 go_enter Tryz.func76, Tryz.ntmps76
 go_wp2_with fail
 go_loopw [3, 11] (fun r a wr => ∃ i : Nat, i <= q.length /\ a = .int .i64 i /\ Hid (IntRow wr w.heap.size r (q.take i)) /\ Hid (Below w.heap.size w wr)) (fun _ a _ => q.length - (intOf a).toNat)
 case atStart => exact ⟨0, by omega, rfl, Lib.hid (World.ownsRow_nil _ _ _ _), Lib.hid (Below.refl _ _)⟩
 case round =>
  obtain ⟨i, hi, rfl, HR, HB⟩ := hrel
  by_cases hlt : i < q.length
  ·obtain ⟨j, hj⟩ : ∃ j, j = (f + i) % k := ⟨_, rfl⟩
   obtain ⟨y, hy⟩ : ∃ y, y = q[i] := ⟨_, rfl⟩
   have hi64 : i <= 64 := by omega
   have hj64 : j < 64 := by rw [hj]; have := Nat.mod_lt (f + i) (show 0 < k by omega); omega
   have HYC := Lib.hid (HH.out.got (show cs[j]? = some y by rw [hj, hy]; exact HH.out.at_ i hlt))
   have HJ := Lib.hid (show Value.int .i64 (((f + i) % k : Nat) : Int) = .int .i64 (j : Int) by rw [hj])
   have HY := Lib.hid hy
   have hti : (q.take i).length = i := by rw [List.length_take]; omega
   have hut : q.take (i + 1) = q.take i ++ [y] := by rw [List.take_add_one, List.getElem?_eq_getElem hlt, hy]; rfl
   have HUT := Lib.hid hut
   have d1 : (j : Int) < 64 := by omega
   clear hj hy hut
   go_wp2_with fail
   refine region_inv0 rfl (by kernel_rfl) (AppInv w 3 1 u3 (q.take i).length (((q.take i).flatMap intCell)) (intCell y) (AlV u3 g i j y) 9 10 11) (fun vs h0 => ⟨(fun i h => by cases h), below_drew HB.out, (fun _ => Below.kept HR.out (below_drew (Below.refl _ _))), (fun _ h => by cases h), (fun h => by cases h), (fun h => by cases h), (fun _ => h0 11 3 rfl)⟩) ?_ ?_
   ·simp (config := { maxSteps := 4000000 }) only [List.map, putAll, Act.put, InvE, List.setIfInBounds_toArray, List.set_cons_succ, List.set_cons_zero, Nat.reduceAdd]
    refine ⟨?_, ?_, ?_, ?_, ?_, ?_, ?_, ?_, ?_, ?_, ?_, ?_, trivial⟩
    all_goals
     intro L vs W hI hi hn hcl K hK
     rw [if_pos (by simp [Region.wanted])]
    ·have hO : L 11 = false := by
      cases h : L 11
      ·rfl
      ·exact absurd (hcl 10 _ rfl (hcl 11 _ rfl h 10 rfl) 0 rfl) (Bool.eq_false_iff.1 hi)
     have e21 := hI.old hO
     simp only [e21] at hK |-
     clear e21 hO
     have HK := Lib.hid (fun v h => hK v W ⟨pv_upd hI.pv h, hI.below, hI.row, hI.new, hI.res, hI.out, hI.old⟩)
     clear hK hI hn hcl hi
     go_simp
     exact HK.out _ rfl
    ·have HK := Lib.hid (fun v h => hK v W ⟨pv_upd hI.pv h, hI.below, hI.row, hI.new, hI.res, hI.out, hI.old⟩)
     clear hK hI hn hcl hi
     go_simp
     exact HK.out _ rfl
    ·have HK := Lib.hid (fun v h => hK v W ⟨pv_upd hI.pv h, hI.below, hI.row, hI.new, hI.res, hI.out, hI.old⟩)
     clear hK hI hn hcl hi
     go_simp
     exact HK.out _ rfl
    ·have HK := Lib.hid (fun v h => hK v W ⟨pv_upd hI.pv h, hI.below, hI.row, hI.new, hI.res, hI.out, hI.old⟩)
     clear hK hI hn hcl hi
     go_simp
     exact HK.out _ rfl
    ·have r2 : vs 2 = _ := hI.pv 2 (hn 2 rfl)
     have r3 : vs 3 = _ := hI.pv 3 (hn 3 rfl)
     simp only [r2, r3] at hK |-
     have HK := Lib.hid hK
     have HI := Lib.hid hI
     clear hK hI hn hcl hi
     go_simp
     go_at_call 104
     refine (rat_any g k f i _ (Ext.below HI.out.below _ _ HSZ.out) (Ext.below HI.out.below _ _ HFI.out) hk1 hk2 hfk hi64).mono ?_
     rintro e w' ⟨rfl, mm, rfl⟩
     have k1 := HI.out.keep (below_drewN (Below.refl _ _) mm)
     exact HK.out _ _ ⟨pv_upd k1.pv HJ.out, k1.below, k1.row, k1.new, k1.res, k1.out, k1.old⟩
    ·have r1 : vs 1 = _ := hI.pv 1 (hn 1 rfl)
     simp only [r1] at hK |-
     have HK := Lib.hid (fun v h => hK v W ⟨pv_upd hI.pv h, hI.below, hI.row, hI.new, hI.res, hI.out, hI.old⟩)
     clear hK hI hn hcl hi
     go_simp
     exact HK.out _ rfl
    ·have r5 : vs 5 = _ := hI.pv 5 (hn 5 rfl)
     simp only [r5] at hK |-
     have HK := Lib.hid (fun v h => hK v W ⟨pv_upd hI.pv h, hI.below, hI.row, hI.new, hI.res, hI.out, hI.old⟩)
     clear hK hI hn hcl hi
     go_simp
     exact HK.out _ rfl
    ·have r6 : vs 6 = _ := hI.pv 6 (hn 6 rfl)
     have r4 : vs 4 = _ := hI.pv 4 (hn 4 rfl)
     simp only [r6, r4] at hK |-
     have HK := Lib.hid (fun v h => hK v W ⟨pv_upd hI.pv h, hI.below, hI.row, hI.new, hI.res, hI.out, hI.old⟩)
     clear hK hI hn hcl hi
     go_simp
     exact HK.out _ rfl
    ·have r7 : vs 7 = _ := hI.pv 7 (hn 7 rfl)
     have y0 := Ext.below hI.below _ _ HYC.out
     simp only [r7] at hK |-
     have HK := Lib.hid (fun v h => hK v W ⟨pv_upd hI.pv h, hI.below, hI.row, hI.new, hI.res, hI.out, hI.old⟩)
     clear hK hI hn hcl hi
     go_simp
     exact HK.out _ rfl
    ·have r8 : vs 8 = _ := hI.pv 8 (hn 8 rfl)
     simp only [r8] at hK |-
     have HK := Lib.hid hK
     have HI := Lib.hid hI
     clear hK hI hn hcl hi
     go_simp
     have k1 := HI.out.keep (balloc W (.cells (intCell y).toArray 3))
     exact HK.out _ _ ⟨pv_upd k1.pv trivial, k1.below, k1.row, fun _ _ => ⟨W.heap.size, rfl, blk_new _ _⟩, k1.res, k1.out, k1.old⟩
    ·have r0 : vs 0 = _ := hI.pv 0 (hn 0 rfl)
     have hA : L 10 = false := hi
     have hO : L 11 = false := by
      cases h : L 11
      ·rfl
      ·exact absurd (hcl 11 _ rfl h 10 rfl) (Bool.eq_false_iff.1 hA)
     obtain ⟨g9, e19, hg⟩ := hI.new hA (hn 9 rfl)
     have hr := hI.row hA
     have hsrc : Src W (vs 9) 1 (intCell y) := .inr ⟨⟨g9, 0, none⟩, 1, e19, fun j u hu => by rw [addr_add]; have h := BlockIs.of hg j u (by simpa using hu); simpa using h⟩
     refine wp_onto _ (.tmp 14) (.tmp 23) 75 rfl w.heap.size 3 _ 1 8 Tryz.underlying75 infoInt rfl (by decide) u3 (q.take i).length _ (hI.pv 0 (hn 0 rfl)) hr 1 (intCell y) hsrc rfl (fun u hu => flatInt.one _ u hu) (by have := hti; simp only [maxLen]; omega) (by have := hti; omega) hI.below.size ?_
     intro v' w' ho hg2
     refine hK v' w' ⟨pv_upd hI.pv trivial, hI.below.grown hg2 hI.below.size (fun q hq => (hr.lt q hq).1), fun q => absurd q (by simp [updB]), fun q => absurd q (by simp [updB]), fun _ => ho, fun q => absurd q (Bool.eq_false_iff.1 hO), hI.old⟩
    ·have HK := Lib.hid (fun v h => hK v W ⟨pv_upd hI.pv trivial, hI.below, hI.row, hI.new, hI.res, (fun _ => h), fun q => absurd q (by simp [updB])⟩)
     clear hK hI hn hcl hi
     go_simp
     exact HK.out _ rfl
   ·intro vs W hI
    simp only [List.map, putAll, Act.put, List.setIfInBounds_toArray, List.set_cons_succ, List.set_cons_zero, Nat.reduceAdd]
    have hr := hI.res (by simp)
    have e21 := hI.out (by simp)
    have r0 : vs 0 = _ := hI.pv 0 (by simp)
    have r1 : vs 1 = _ := hI.pv 1 (by simp)
    have r2 : vs 2 = _ := hI.pv 2 (by simp)
    have r3 : vs 3 = _ := hI.pv 3 (by simp)
    have r4 : vs 4 = _ := hI.pv 4 (by simp)
    have r5 : vs 5 = _ := hI.pv 5 (by simp)
    have r6 : vs 6 = _ := hI.pv 6 (by simp)
    have r7 : vs 7 = _ := hI.pv 7 (by simp)
    have r8 : vs 8 = _ := hI.pv 8 (by simp)
    have HBW := Lib.hid hI.below
    rw [<- e21] at hr
    obtain ⟨ra, rc, e5⟩ := own_shape hr
    have HRW := Lib.hid hr
    simp only [r0, r1, r2, r3, r4, r5, r6, r7, r8, <- e21]
    clear hI hr r0 r1 r2 r3 r4 r5 r6 r7 r8
    have HRN := Lib.hid (show IntRow W w.heap.size (vs 11) (q.take (i + 1)) by rw [HUT.out]; exact IntRow.snoc rfl HRW.out)
    clear HRW
    go_wp2_with fail
    exact ⟨⟨i + 1, by omega, rfl, HRN, HBW⟩, by simp [intOf]; omega⟩
  ·obtain rfl : i = q.length := by omega
   have HRN : Hid (IntRow wr w.heap.size u3 q) := by rw [List.take_length] at HR; exact HR
   obtain ⟨ra, rc, rfl⟩ := own_shape HRN.out
   go_wp2_with fail
   go_ret
   exact ⟨_, rfl, HRN.out, HB.out⟩
end Go.Proofs.YtooeeiiiflfckaaGreat
/- Samples, queues and what a port carries values in. -/
namespace Go.Proofs.YtooeeiiiflfckaaGreat
open Go.RowKit
set_option maxRecDepth 100000 in
set_option maxHeartbeats 2000000 in
theorem ringNew_any (k : Nat) (w : World) (h1 : 1 <= k) (h2 : k <= 64) :
  Calls Tryz.prog 40 #[.int .i64 k] w fun e w' => e = .returned (.tuple #[.pointer (some ⟨w.heap.size, 0, none⟩), .int .i64 0]) /\ RingAt w' w.heap.size k [] /\ Below w.heap.size w w' := by
 have c1 : decide ((k : Int) < 1) = false := decide_eq_false (by omega)
 have c2 : decide ((64 : Int) < (k : Int)) = false := decide_eq_false (by omega)
 go_enter Tryz.func40, Tryz.ntmps40
 go_wp2_with fail
 go_ret2
 refine ⟨rfl, ⟨List.replicate 64 0, 0, ⟨?_, rfl, h1, h2, by omega, by simp, fun i hi => by simp at hi⟩⟩, balloc _ _⟩
 have h := blk_new w (.cells ((List.replicate 64 (0 : Int)).map vi ++ [vi k, vi 0, vi 0]).toArray 148)
 exact h
set_option maxRecDepth 100000 in
set_option maxHeartbeats 2000000 in
theorem queNew_any (k : Nat) (w : World) (h1 : 1 <= k) (h2 : k <= 8) :
  Calls Tryz.prog 64 #[.int .i64 k] w fun e w' => ∃ qb rb, e = .returned (.tuple #[.pointer (some ⟨qb, 0, none⟩), .int .i64 0]) /\ w.heap.size <= rb /\ w'.heap[qb]? = some (.cells #[.pointer (some ⟨rb, 0, none⟩)] 204 (0, 0)) /\ w.heap.size <= qb /\ RingAt w' rb k [] /\ Below w.heap.size w w' := by
 have c1 : decide ((k : Int) < 1) = false := decide_eq_false (by omega)
 have c2 : decide ((8 : Int) < (k : Int)) = false := decide_eq_false (by omega)
 go_enter Tryz.func64, Tryz.ntmps64
 go_wp2_with fail
 refine (ringNew_any k w h1 (by omega)).mono ?_
 rintro e w1 ⟨rfl, hr, hb⟩
 have HR := Lib.hid hr
 have HB := Lib.hid hb
 obtain ⟨rb, hrb⟩ : ∃ rb, rb = w.heap.size := ⟨_, rfl⟩
 rw [<- hrb] at HR |-
 clear hr hb
 go_wp2_with fail
 go_ret2
 subst hrb
 exact ⟨w1.heap.size, w.heap.size, rfl, Nat.le_refl _, blk_new _ _, HB.out.size, HR.out.keep ((Below.heap_alloc _ _ _ HR.out.lt)), bthen HB.out (balloc _ _)⟩
set_option maxRecDepth 100000 in
set_option maxHeartbeats 2000000 in
theorem queWrite_any (qb rb k : Nat) (q : List Int) (x : Int) (w : World) (hq : w.heap[qb]? = some (.cells #[.pointer (some ⟨rb, 0, none⟩)] 204 (0, 0))) (hr : RingAt w rb k q) :
  Calls Tryz.prog 184 #[.pointer (some ⟨qb, 0, none⟩), .int .i64 x] w fun e w' => e = .returned (.bool (decide (q.length = k))) /\ RingAt w' rb k (pushQ k q x) /\ w.grownBy w' (some rb) := by
 have x0 := BlockIs.of hq 0 _ rfl
 have HR := Lib.hid hr
 clear hq hr
 go_enter Tryz.func184, Tryz.ntmps184
 go_wp2_with fail
 refine (ring_push rb k q x w HR.out).mono ?_
 rintro e w1 ⟨old, rfl, hr, hg⟩
 have HS := Lib.hid (And.intro hr hg)
 obtain ⟨d, hd⟩ : ∃ d, d = decide (q.length = k) := ⟨_, rfl⟩
 rw [<- hd]
 have HE := Lib.hid hd
 unfold vi
 clear hr hg hd
 go_wp2_with fail
 go_ret
 exact ⟨by rw [<- HE.out]; rfl, HS.out⟩
set_option maxRecDepth 100000 in
set_option maxHeartbeats 2000000 in
theorem queRead_any (qb rb k : Nat) (q : List Int) (w : World) (hq : w.heap[qb]? = some (.cells #[.pointer (some ⟨rb, 0, none⟩)] 204 (0, 0))) (hr : RingAt w rb k q) :
  Calls Tryz.prog 181 #[.pointer (some ⟨qb, 0, none⟩)] w fun e w' => e = .returned (.tuple #[.int .i64 (q.headD 0), .bool (!q.isEmpty)]) /\ RingAt w' rb k q.tail /\ w.grownBy w' (some rb) := by
 have x0 := BlockIs.of hq 0 _ rfl
 have HR := Lib.hid hr
 clear hq hr
 go_enter Tryz.func181, Tryz.ntmps181
 go_wp2_with fail
 refine (ring_pop rb k q w HR.out).mono ?_
 rintro e w1 ⟨rfl, hr, hg⟩
 have HS := Lib.hid (And.intro hr hg)
 obtain ⟨d, hd⟩ : ∃ d, d = !q.isEmpty := ⟨_, rfl⟩
 obtain ⟨z, hz⟩ : ∃ z, z = q.headD 0 := ⟨_, rfl⟩
 rw [<- hd, <- hz]
 have HE := Lib.hid (And.intro hd hz)
 unfold vi
 clear hr hg hd hz
 go_wp2_with fail
 go_ret2
 exact ⟨by rw [<- HE.out.1, <- HE.out.2]; rfl, HS.out⟩
def SmpAt (W : World) (g : Nat) (q : List Int) : Prop := q.length <= 1 /\ W.heap[g]? = some (.cells #[.int .i64 (q.headD 0), .bool (!q.isEmpty)] 202 (0, 0))
theorem smpNew_any (w : World) : Calls Tryz.prog 63 #[] w fun e w' => e = .returned (.pointer (some ⟨w.heap.size, 0, none⟩)) /\ SmpAt w' w.heap.size [] /\ Below w.heap.size w w' := by
 go_enter Tryz.func63, Tryz.ntmps63
 go_wp2_with fail
 go_ret
 exact ⟨rfl, ⟨by simp, blk_new _ _⟩, balloc _ _⟩
set_option maxRecDepth 100000 in
set_option maxHeartbeats 1000000 in
theorem smpRead_any (g : Nat) (q : List Int) (w : World) (h : SmpAt w g q) : Calls Tryz.prog 176 #[.pointer (some ⟨g, 0, none⟩)] w fun e w' => e = .returned (.tuple #[.int .i64 (q.headD 0), .bool (!q.isEmpty)]) /\ ∃ m, w' = w.drewN m := by
 have h0 := BlockIs.of h.2 0 _ rfl
 have h1 := BlockIs.of h.2 1 _ rfl
 obtain ⟨d, hd⟩ : ∃ d, d = !q.isEmpty := ⟨_, rfl⟩
 obtain ⟨z, hz⟩ : ∃ z, z = q.headD 0 := ⟨_, rfl⟩
 rw [<- hd, <- hz]
 rw [<- hz] at h0
 rw [<- hd] at h1
 clear h hd hz
 go_enter Tryz.func176, Tryz.ntmps176
 go_wp2_with fail
 go_quiet (fail)
 go_wp2_with fail
 go_ret2
 exact ⟨rfl, _, rfl⟩
set_option maxRecDepth 100000 in
set_option maxHeartbeats 1000000 in
theorem smpWrite_any (g : Nat) (q : List Int) (x : Int) (w : World) (h : SmpAt w g q) : Calls Tryz.prog 177 #[.pointer (some ⟨g, 0, none⟩), .int .i64 x] w fun e w' => e = .returned (.tuple #[]) /\ SmpAt w' g [x] /\ w.grownBy w' (some g) := by
 have h0 := BlockIs.of h.2 0 _ rfl
 have h1 := BlockIs.of h.2 1 _ rfl
 have f0 := thaw h.2 0
 have f1 := thaw h.2 1
 have HN := Lib.hid (show SmpAt ((w.setCell ⟨g, 0, none⟩ (.int .i64 x)).setCell ⟨g, 1, none⟩ (.bool true)) g [x] from ⟨by simp, blk_set (blk_set h.2 0 (.int .i64 x)) 1 (.bool true)⟩)
 clear h
 go_enter Tryz.func177, Tryz.ntmps177
 go_wp2_with fail
 go_end0
 exact ⟨rfl, HN.out, grown_trans (set_grown _ _ _ _) (set_grown _ _ _ _)⟩
inductive Car where
 | smp (g : Nat)
 | que (qb rb : Nat)
def Car.val : Car -> Value
 | .smp g => .iface 155 (.agg #[.pointer (some ⟨g, 0, none⟩)])
 | .que qb _ => .iface 164 (.agg #[.pointer (some ⟨qb, 0, none⟩)])
def Car.blk : Car -> Nat
 | .smp g => g
 | .que _ rb => rb
def CarAt (W : World) (c : Car) (k : Nat) (q : List Int) : Prop := match c with
 | .smp g => SmpAt W g q
 | .que qb rb => W.heap[qb]? = some (.cells #[.pointer (some ⟨rb, 0, none⟩)] 204 (0, 0)) /\ RingAt W rb k q
theorem smpPut_any (g : Nat) (q : List Int) (x : Int) (w : World) (h : SmpAt w g q) : Calls Tryz.prog 179 #[.agg #[.pointer (some ⟨g, 0, none⟩)], .int .i64 x] w fun e w' => e = .returned (.bool false) /\ SmpAt w' g [x] /\ w.grownBy w' (some g) := by
 have hb := balloc w (.cells #[.pointer (some ⟨g, 0, none⟩)] 155)
 have HB := Lib.hid (below_grown hb (some g))
 have HS := Lib.hid (show SmpAt (w.alloc (.cells #[.pointer (some ⟨g, 0, none⟩)] 155)) g q from ⟨h.1, keep_at h.2 hb⟩)
 clear h hb
 go_enter Tryz.func179, Tryz.ntmps179
 go_wp2_with fail
 refine (smpWrite_any g q x _ HS.out).mono ?_
 rintro e w1 ⟨rfl, hs, hg⟩
 have HR := Lib.hid (And.intro hs (grown_trans HB.out hg))
 clear hs hg
 go_wp2_with fail
 go_ret
 exact ⟨rfl, HR.out⟩
theorem smpPeek_any (g : Nat) (q : List Int) (w : World) (h : SmpAt w g q) : Calls Tryz.prog 178 #[.agg #[.pointer (some ⟨g, 0, none⟩)]] w fun e w' => e = .returned (.int .i64 (q.headD 0)) /\ Below w.heap.size w w' := by
 have hb := balloc w (.cells #[.pointer (some ⟨g, 0, none⟩)] 155)
 have HB := Lib.hid hb
 have HS := Lib.hid (show SmpAt (w.alloc (.cells #[.pointer (some ⟨g, 0, none⟩)] 155)) g q from ⟨h.1, keep_at h.2 hb⟩)
 clear h hb
 go_enter Tryz.func178, Tryz.ntmps178
 go_wp2_with fail
 refine (smpRead_any g q _ HS.out).mono ?_
 rintro e w1 ⟨rfl, m, rfl⟩
 obtain ⟨d, hd⟩ : ∃ d, d = !q.isEmpty := ⟨_, rfl⟩
 obtain ⟨z, hz⟩ : ∃ z, z = q.headD 0 := ⟨_, rfl⟩
 rw [<- hd, <- hz]
 have HE := Lib.hid hz
 clear hd hz
 go_wp2_with fail
 go_ret
 exact ⟨by rw [<- HE.out]; rfl, below_drewN HB.out _⟩
theorem quePut_any (qb rb k : Nat) (q : List Int) (x : Int) (w : World) (hq : w.heap[qb]? = some (.cells #[.pointer (some ⟨rb, 0, none⟩)] 204 (0, 0))) (hr : RingAt w rb k q) :
  Calls Tryz.prog 183 #[.agg #[.pointer (some ⟨qb, 0, none⟩)], .int .i64 x] w fun e w' => e = .returned (.bool (decide (q.length = k))) /\ RingAt w' rb k (pushQ k q x) /\ w.grownBy w' (some rb) := by
 have hb := balloc w (.cells #[.pointer (some ⟨qb, 0, none⟩)] 164)
 have HB := Lib.hid (below_grown hb (some rb))
 have HS := Lib.hid (And.intro (keep_at hq hb) (hr.keep (hb.block _ hr.lt)))
 clear hq hr hb
 go_enter Tryz.func183, Tryz.ntmps183
 go_wp2_with fail
 refine (queWrite_any qb rb k q x _ HS.out.1 HS.out.2).mono ?_
 rintro e w1 ⟨rfl, hs, hg⟩
 have HR := Lib.hid (And.intro hs (grown_trans HB.out hg))
 obtain ⟨d, hd⟩ : ∃ d, d = decide (q.length = k) := ⟨_, rfl⟩
 rw [<- hd]
 have HE := Lib.hid hd
 clear hs hg hd
 go_wp2_with fail
 go_ret
 exact ⟨by rw [<- HE.out]; rfl, HR.out⟩
theorem quePeek_any (qb rb k : Nat) (q : List Int) (w : World) (hq : w.heap[qb]? = some (.cells #[.pointer (some ⟨rb, 0, none⟩)] 204 (0, 0))) (hr : RingAt w rb k q) :
  Calls Tryz.prog 182 #[.agg #[.pointer (some ⟨qb, 0, none⟩)]] w fun e w' => e = .returned (.int .i64 (q.headD 0)) /\ Below w.heap.size w w' := by
 have hb := balloc w (.cells #[.pointer (some ⟨qb, 0, none⟩)] 164)
 have HB := Lib.hid hb
 have hk := hr.len
 have HR := Lib.hid (hr.keep (hb.block _ hr.lt))
 have x0 := BlockIs.of (keep_at hq hb) 0 _ rfl
 clear hq hr hb
 go_enter Tryz.func182, Tryz.ntmps182
 go_wp2_with fail
 refine (ring_all rb k q _ HR.out).mono ?_
 rintro e w1 ⟨v, rfl, hs, hb⟩
 have HB1 := Lib.hid (bthen HB.out hb)
 have HV := Lib.hid (hs.ints (by omega))
 clear hs hb
 obtain ⟨a, c, rfl, -, -, -, hc⟩ := id HV.out
 rcases q with _ | ⟨y, r⟩
 ·clear hc
  go_wp2_with fail
  go_ret
  exact ⟨rfl, HB1.out⟩
 ·obtain ⟨b, off, rfl, hcc⟩ := hc (by simp)
  have y0 := hcc 0 (by simp)
  unfold IntAt at y0
  simp only [Nat.zero_mul, Nat.add_zero, List.getElem_cons_zero] at y0
  have c1 : (0 : Int) < (((y :: r).length : Nat) : Int) := by simp
  clear hc hcc
  go_wp2_with fail
  go_ret
  exact ⟨rfl, HB1.out⟩
end Go.Proofs.YtooeeiiiflfckaaGreat
/- package ports: New (printed by gen17c.py). -/
namespace Go.Proofs.YtooeeiiiflfckaaGreat
open Go.RowKit
def lineCells (x : Port) (c : Car) : List Value := [.int .i64 x.kind, .int .i64 x.from_, .int .i64 x.to_, .int .i64 x.size, c.val]
theorem infoLine : (Tryz.prog.info? 159).map (fun i => (i.zero, i.size, i.bytes)) = some (some (.agg #[.int .i64 0, .int .i64 0, .int .i64 0, .int .i64 0, .nilIface]), 5, 48) := by kernel_rfl
theorem line_one (x : Port) (c : Car) : ∀ u ∈ lineCells x c, u.oneCell' = true := by
 intro u hu
 cases c <;> (simp only [lineCells, Car.val, List.mem_cons, List.not_mem_nil, or_false] at hu; rcases hu with rfl | rfl | rfl | rfl | rfl <;> rfl)
structure Ln where
 p : Port
 c : Car
 q : List Int
def Ln.k (l : Ln) : Nat := l.p.size.toNat
theorem SmpAt.keep {W W' : World} {g : Nat} {q : List Int} (h : SmpAt W g q) (hb : Below W.heap.size W W') : SmpAt W' g q := ⟨h.1, keep_at h.2 hb⟩
theorem SmpAt.apart {W W' : World} {g : Nat} {q : List Int} (h : SmpAt W g q) {r : Option Nat} {t : TypeId} (hg : W.grownBy W' r) (hr : ∀ g, r = some g -> Typed W g t) (hne : 202 ≠ t) : SmpAt W' g q := ⟨h.1, typed_apart h.2 hg hr hne⟩
theorem CarAt.heap {W W' : World} {c : Car} {k : Nat} {q : List Int} (h : CarAt W c k q) (hh : W'.heap = W.heap) : CarAt W' c k q := by
 cases c with
 | smp g => exact ⟨h.1, by rw [hh]; exact h.2⟩
 | que qb rb => exact ⟨by rw [hh]; exact h.1, h.2.keep (by rw [hh])⟩
theorem CarAt.keep {W W' : World} {c : Car} {k : Nat} {q : List Int} (h : CarAt W c k q) (hb : Below W.heap.size W W') : CarAt W' c k q := by
 cases c with
 | smp g => exact SmpAt.keep h hb
 | que qb rb => exact ⟨keep_at h.1 hb, h.2.keep (hb.block _ h.2.lt)⟩
theorem CarAt.apart {W W' : World} {c : Car} {k : Nat} {q : List Int} (h : CarAt W c k q) {r : Option Nat} {t : TypeId} (hg : W.grownBy W' r) (hr : ∀ g, r = some g -> Typed W g t) (h1 : 202 ≠ t) (h2 : 204 ≠ t) (h3 : 148 ≠ t) : CarAt W' c k q := by
 cases c with
 | smp g => exact SmpAt.apart h hg hr h1
 | que qb rb =>
  obtain ⟨hq, cs, f, hring⟩ := h
  exact ⟨typed_apart hq hg hr h2, cs, f, ⟨typed_apart hring.blk hg hr h3, hring.len, hring.k1, hring.k2, hring.fk, hring.qk, hring.at_⟩⟩
def NaV (pb g : Nat) (r : Value) (x : Port) (i : Nat) (v : Value) : Prop := match i with
 | 0 => v = .pointer (some ⟨pb, 0, none⟩)
 | 1 => v = .pointer (some ⟨pb, 0, none⟩)
 | 2 => v = .pointer (some ⟨pb, 0, none⟩)
 | 3 => v = .pointer (some ⟨pb, 0, none⟩)
 | 4 => v = r
 | 5 => v = .agg #[.int .i64 x.kind, .int .i64 x.from_, .int .i64 x.to_, .int .i64 x.size]
 | 6 => v = .pointer (some ⟨g, 0, none⟩)
 | 7 => v = .agg #[.pointer (some ⟨g, 0, none⟩)]
 | 8 => v = .iface 155 (.agg #[.pointer (some ⟨g, 0, none⟩)])
 | 9 => v = .agg #[.int .i64 x.kind, .int .i64 x.from_, .int .i64 x.to_, .int .i64 x.size, .iface 155 (.agg #[.pointer (some ⟨g, 0, none⟩)])]
 | 12 => v = .pointer (some ⟨pb, 0, none⟩)
 | 13 => v = .pointer (some ⟨pb, 0, none⟩)
 | _ => True
def NbV (pb g : Nat) (r : Value) (x : Port) (i : Nat) (v : Value) : Prop := match i with
 | 0 => v = .pointer (some ⟨pb, 0, none⟩)
 | 1 => v = .pointer (some ⟨pb, 0, none⟩)
 | 2 => v = .pointer (some ⟨pb, 0, none⟩)
 | 3 => v = .pointer (some ⟨pb, 0, none⟩)
 | 4 => v = r
 | 5 => v = .agg #[.int .i64 x.kind, .int .i64 x.from_, .int .i64 x.to_, .int .i64 x.size]
 | 6 => v = .pointer (some ⟨g, 0, none⟩)
 | 7 => v = .agg #[.pointer (some ⟨g, 0, none⟩)]
 | 8 => v = .iface 164 (.agg #[.pointer (some ⟨g, 0, none⟩)])
 | 9 => v = .agg #[.int .i64 x.kind, .int .i64 x.from_, .int .i64 x.to_, .int .i64 x.size, .iface 164 (.agg #[.pointer (some ⟨g, 0, none⟩)])]
 | 12 => v = .pointer (some ⟨pb, 0, none⟩)
 | 13 => v = .pointer (some ⟨pb, 0, none⟩)
 | _ => True
structure NewInv (w wr : World) (pb : Nat) (r : Value) (n : Nat) (xs cs : List Value) (Ls : List Ln) (PV : Nat -> Value -> Prop) (P1 : World -> Prop) (iC : Nat) (L : Nat -> Bool) (vs : Nat -> Value) (W : World) : Prop where
 pv : ∀ i, L i = true -> PV i (vs i)
 below : Below w.heap.size w W
 bel : L 11 = false -> Below wr.heap.size wr W
 c0 : L iC = false -> W.heap = wr.heap
 c1 : L iC = true -> P1 W
 new : L 11 = false -> L 10 = true -> ∃ g, vs 10 = .slice (some ⟨g, 0, none⟩) 1 1 /\ W.heap[g]? = some (.cells cs.toArray 159 (0, 0))
 res : L 11 = true -> W.ownsRow w.heap.size 159 5 (vs 11) (n + 1) (xs ++ cs)
 cell0 : L 14 = false -> W.heap[pb]? = some (.cells #[r] 151 (0, 0))
 cell1 : L 14 = true -> W.heap[pb]? = some (.cells #[vs 11] 151 (0, 0))
 cars : ∀ l ∈ Ls, CarAt W l.c l.k l.q
def Car.all : Car -> List Nat
 | .smp g => [g]
 | .que qb rb => [qb, rb]
structure PortsAt (W : World) (pb lo hi : Nat) (Ls : List Ln) : Prop where
 pb1 : lo <= pb
 pb2 : pb < hi
 hi2 : hi <= W.heap.size
 row : ∃ v, W.heap[pb]? = some (.cells #[v] 151 (0, 0)) /\ W.ownsRow lo 159 5 v Ls.length (Ls.flatMap (fun l => lineCells l.p l.c)) /\ ∀ g, v.ownBlock = some g -> g < hi
 cars : ∀ l ∈ Ls, CarAt W l.c l.k l.q
 blks : ∀ l ∈ Ls, ∀ b ∈ l.c.all, lo <= b /\ b < hi
 kind : ∀ l ∈ Ls, (l.p.kind = 0 /\ ∃ g, l.c = .smp g) ∨ (l.p.kind = 1 /\ ∃ qb rb, l.c = .que qb rb)
 ne : Ls.Pairwise (fun a b => a.c.blk ≠ b.c.blk)
theorem PortsAt.add {W : World} {pb B hi0 : Nat} {Ls : List Ln} {x : Port} {c : Car} {v : Value} {n : Nat} (h1 : B <= pb) (h2 : pb < hi0) (h3 : hi0 <= W.heap.size) (hn : n = Ls.length) (hc : W.heap[pb]? = some (.cells #[v] 151 (0, 0)))
  (hrow : W.ownsRow B 159 5 v (n + 1) (Ls.flatMap (fun l => lineCells l.p l.c) ++ lineCells x c)) (hcars : ∀ l ∈ Ls, CarAt W l.c l.k l.q) (hb : ∀ l ∈ Ls, ∀ b ∈ l.c.all, B <= b /\ b < hi0)
  (hk : ∀ l ∈ Ls, (l.p.kind = 0 /\ ∃ g, l.c = .smp g) ∨ (l.p.kind = 1 /\ ∃ qb rb, l.c = .que qb rb)) (hne : Ls.Pairwise (fun a b => a.c.blk ≠ b.c.blk))
  (hx : CarAt W c x.size.toNat []) (hxb : ∀ b ∈ c.all, hi0 <= b /\ b < W.heap.size) (hB : B <= hi0) (hxk : (x.kind = 0 /\ ∃ g, c = .smp g) ∨ (x.kind = 1 /\ ∃ qb rb, c = .que qb rb)) : PortsAt W pb B W.heap.size (Ls ++ [⟨x, c, []⟩]) := by
 have hmem : ∀ c : Car, c.blk ∈ c.all := fun c => by cases c <;> simp [Car.blk, Car.all]
 subst hn
 refine ⟨h1, by omega, Nat.le_refl _, ⟨v, hc, by rw [List.length_append, List.flatMap_append]; simpa using hrow, fun g hg => (hrow.lt g hg).2⟩, ?_, ?_, ?_, ?_⟩
 ·intro l hl
  rcases List.mem_append.1 hl with hl | hl
  ·exact hcars l hl
  ·rw [List.mem_singleton.1 hl]; exact hx
 ·intro l hl b hbm
  rcases List.mem_append.1 hl with hl | hl
  ·have := hb l hl b hbm; omega
  ·rw [List.mem_singleton.1 hl] at hbm; have := hxb b hbm; omega
 ·intro l hl
  rcases List.mem_append.1 hl with hl | hl
  ·exact hk l hl
  ·rw [List.mem_singleton.1 hl]; exact hxk
 ·rw [List.pairwise_append]
  refine ⟨hne, by simp, fun a ha b hb' => ?_⟩
  rw [List.mem_singleton.1 hb']
  have := hb a ha a.c.blk (hmem _)
  have := hxb c.blk (hmem _)
  simp only
  omega
theorem ports_of_check {c : Config} (h : checkCfg c = 0) : c.ports.length <= 8 /\ ∀ x ∈ c.ports, (x.kind = 0 ∨ x.kind = 1) /\ 1 <= x.size /\ x.size <= 8 := by
 unfold checkCfg at h
 by_cases h1 : c.frame < 1 ∨ c.frame > 256 ∨ c.quiet < 1 ∨ c.quiet > 16
 ·rw [if_pos h1] at h; simp at h
 rw [if_neg h1] at h
 by_cases h2 : c.parts.length < 1 ∨ c.parts.length > 8 ∨ c.parts.any (fun p => !levelMay p) = true
 ·rw [if_pos h2] at h; simp at h
 rw [if_neg h2] at h
 by_cases h3 : c.parts.any (fun p => !tasksMay p) = true
 ·rw [if_pos h3] at h; simp at h
 rw [if_neg h3] at h
 by_cases h4 : windowsMay c = false
 ·rw [if_pos h4] at h; simp at h
 rw [if_neg h4] at h
 by_cases h5 : c.ports.length > 8 ∨ c.ports.any (fun p => !portMay c.parts p) = true
 ·rw [if_pos h5] at h; simp at h
 refine ⟨by omega, fun x hx => ?_⟩
 have hm : portMay c.parts x = true := by
  cases hq : portMay c.parts x
  ·exact absurd (.inr (List.any_eq_true.2 ⟨x, hx, by rw [hq]; rfl⟩)) h5
  ·rfl
 unfold portMay at hm
 simp only [Bool.and_eq_true, decide_eq_true_eq] at hm
 have := hm.1.1
 split at this <;> omega
set_option maxRecDepth 100000 in
set_option maxHeartbeats 16000000 in
theorem ports_new (c : Config) (v : Value) (w : World) (hc : CfgV w v c) :
  Calls Tryz.prog 41 #[v] w fun e w' => (checkCfg c ≠ 0 -> e = .returned (.tuple #[.pointer none, .int .i64 1700])) /\ (checkCfg c = 0 -> ∃ pb Ls, e = .returned (.tuple #[.pointer (some ⟨pb, 0, none⟩), .int .i64 0]) /\ PortsAt w' pb w.heap.size w'.heap.size Ls /\ Ls.map (·.p) = c.ports /\ ∀ l ∈ Ls, l.q = []) /\ Below w.heap.size w w' := by
 obtain ⟨pv, wv, ov, rfl, hcfg⟩ := id hc
 go_enter Tryz.func41, Tryz.ntmps41
 obtain ⟨wa, ga, hw_wa, hg_ga, hb_wa, hk_ga, hs_wa⟩ := alloc_all w (.cells #[.int .i64 c.frame, .int .i64 c.quiet, pv, wv, ov] 26)
 have HA := Lib.hid hk_ga
 have HBA := Lib.hid hb_wa
 have HCF := Lib.hid (hcfg.ext (Ext.below hb_wa))
 have HGA := Lib.hid hg_ga
 have y0 := BlockIs.of hk_ga 0 _ rfl
 have y1 := BlockIs.of hk_ga 1 _ rfl
 have y2 := BlockIs.of hk_ga 2 _ rfl
 have y3 := BlockIs.of hk_ga 3 _ rfl
 have y4 := BlockIs.of hk_ga 4 _ rfl
 clear hk_ga hb_wa hs_wa
 go_wp2_with fail
 rw [<- hw_wa, <- hg_ga]
 clear hw_wa hg_ga
 refine (check_any c _ _ ⟨_, _, _, rfl, HCF.out⟩).mono ?_
 by_cases hck : checkCfg c = 0
 ·rw [hck]
  rintro e w1 ⟨rfl, hb⟩
  have hA1 := keep_at HA.out hb
  have HB1 := Lib.hid (bthen HBA.out hb)
  have HPV := Lib.hid hcfg.ports
  have hpc := ports_of_check hck
  have hp8 := hpc.1
  have HPC := Lib.hid hpc.2
  obtain ⟨oa, oc, rfl, -, -, -, -⟩ := hcfg.ports
  have HCK := Lib.hid hck
  clear hb hcfg hck hpc y0 y1 y2 y3 y4
  obtain ⟨w2, pb, hw_w2, hg_pb, hb_w2, hk_pb, hs_w2⟩ := alloc_all w1 (.cells #[.slice none 0 0] 151)
  have HB2 := Lib.hid (bthen HB1.out hb_w2)
  have hA2 := keep_at hA1 hb_w2
  have hplo : w.heap.size <= pb := by rw [hg_pb]; exact HB1.out.size
  have HPL := Lib.hid hplo
  have HK0 := Lib.hid (show PortsAt w2 pb w.heap.size w2.heap.size [] from ⟨hplo, by omega, Nat.le_refl _, ⟨_, hk_pb, World.ownsRow_nil _ _ _ _, fun g h => by simp [Value.ownBlock] at h⟩, by simp, by simp, by simp, List.Pairwise.nil⟩)
  have y0 := BlockIs.of hA1 4 _ rfl
  have hgn : ga < w1.heap.size := lt_of_block hA1
  have hpbn : pb < w2.heap.size := by omega
  clear hb_w2 hs_w2 hk_pb hA1 hA2 hplo
  go_wp2_with fail
  rw [<- hw_w2, <- hg_pb]
  clear hw_w2 hg_pb y0 hgn
  go_loopw [17] (fun i wr => ∃ (k : Nat) (Ls : List Ln), k <= c.ports.length /\ i = .int .i64 k /\ Hid (Ls.map (·.p) = c.ports.take k) /\ Hid (∀ l ∈ Ls, l.q = []) /\ Hid (PortsAt wr pb w.heap.size wr.heap.size Ls) /\ Hid (Below w.heap.size w wr)) (fun i _ => c.ports.length - (intOf i).toNat)
  case atStart => exact ⟨0, [], by omega, rfl, Lib.hid rfl, Lib.hid (by simp), HK0, HB2⟩
  case round =>
   obtain ⟨k, Ls, hk, rfl, HLS, HQS, HPA, HBR⟩ := hrel
   by_cases hlt : k < c.ports.length
   ·obtain ⟨x, hx⟩ : ∃ x, x = c.ports[k] := ⟨_, rfl⟩
    obtain ⟨ba, off, cc, e, hy⟩ : ∃ b off cap, Value.slice oa c.ports.length oc = .slice (some ⟨b, off, none⟩) c.ports.length cap /\ PortAt w b (off + k * 4) x := by
     obtain ⟨_, _, e, -, -, -, hq⟩ := HPV.out
     obtain ⟨b, off, hb, hq2⟩ := hq (by intro h; rw [h] at hlt; simp at hlt)
     injection e with e1 _ e3
     subst e1; subst e3
     exact ⟨b, off, oc, by rw [hb], by rw [hx]; exact hq2 k hlt⟩
    injection e with e _ e3
    subst e
    subst e3
    obtain ⟨x0, x1, x2, x3⟩ := hy.ext (Ext.below HBR.out)
    unfold IntAt at x0 x1 x2 x3
    have HPX := Lib.hid (HPC.out x (by rw [hx]; exact List.getElem_mem hlt))
    have HTX := Lib.hid (show c.ports.take (k + 1) = c.ports.take k ++ [x] by rw [List.take_add_one, List.getElem?_eq_getElem hlt, hx]; rfl)
    obtain ⟨w3, bx, hw_w3, hg_bx, hb_w3, hk_bx, hs_w3⟩ := alloc_all wr (.cells #[.int .i64 x.kind, .int .i64 x.from_, .int .i64 x.to_, .int .i64 x.size] 121)
    have HX3 := Lib.hid (show PortAt w3 bx 0 x from ⟨BlockIs.of hk_bx 0 _ rfl, BlockIs.of hk_bx 1 _ rfl, BlockIs.of hk_bx 2 _ rfl, BlockIs.of hk_bx 3 _ rfl⟩)
    obtain ⟨r, hr1, hr2, hr3⟩ := HPA.out.row
    have HW3 := Lib.hid (And.intro hb_w3 (And.intro hw_w3 hg_bx))
    have HR3 := Lib.hid (And.intro hr1 (And.intro hr2 hr3))
    have hn8 : Ls.length <= 8 := by have h := congrArg List.length HLS.out; simp only [List.length_map, List.length_take] at h; omega
    have HS3 := Lib.hid hs_w3
    clear hx hy hk_bx hb_w3 hs_w3 hr1 hr2 hr3
    go_upto_region 7 with (fail)
    rw [<- hw_w3, <- hg_bx]
    clear hw_w3 hg_bx x0 x1 x2 x3
    obtain ⟨z0, z1, z2, z3⟩ := HX3.out
    unfold IntAt at z0 z1 z2 z3
    simp only [Nat.zero_add] at z0 z1 z2 z3
    by_cases hkind : x.kind = 0
    ·obtain ⟨wq, hwq⟩ : ∃ wq, wq = w3 := ⟨_, rfl⟩
     have hkk : (x.kind == 0) = true := by simpa using hkind
     have HKI := Lib.hid hkind
     have HB := Lib.hid (show Below w.heap.size w wq by rw [hwq]; exact bthen HBR.out HW3.out.1)
     have HPB := Lib.hid (show wq.heap[pb]? = some (.cells #[r] 151 (0, 0)) by rw [hwq]; exact keep_at HR3.out.1 HW3.out.1)
     have HCS := Lib.hid (show ∀ l ∈ Ls, CarAt wq l.c l.k l.q from fun l hl => by rw [hwq]; exact (HPA.out.cars l hl).keep HW3.out.1)
     obtain ⟨n, hn⟩ : ∃ n, n = Ls.length := ⟨_, rfl⟩
     obtain ⟨xs, hxs⟩ : ∃ xs, xs = Ls.flatMap (fun l => lineCells l.p l.c) := ⟨_, rfl⟩
     have HRW := Lib.hid (show wq.ownsRow w.heap.size 159 5 r n xs by rw [hwq, hn, hxs]; exact Below.kept HR3.out.2.1 HW3.out.1)
     have HBX := Lib.hid (show PortAt wq bx 0 x by rw [hwq]; exact HX3.out)
     obtain ⟨g, hg⟩ : ∃ g, g = wq.heap.size := ⟨_, rfl⟩
     have HG := Lib.hid hg
     have hn9 : n <= 8 := by omega
     have HNX := Lib.hid (And.intro hn (And.intro hxs hwq))
     rw [<- hwq]
     rw [<- hwq] at z0 z1 z2 z3
     obtain ⟨ra, rc, hrr⟩ := own_shape HRW.out
     clear hwq hkind hn hxs hg hrr
     go_wp2_with fail
     refine region_inv0 rfl (by kernel_rfl) (NewInv w wq pb r n xs (lineCells x (.smp g)) Ls (NaV pb g r x) (fun W => SmpAt W g []) 6) (fun vs h0 => ⟨(fun i h => by cases h), below_drew HB.out, (fun _ => below_drew (Below.refl _ _)), (fun _ => rfl), (fun h => by cases h), (fun _ h => by cases h), (fun h => by cases h), (fun _ => HPB.out), (fun h => by cases h), fun l hl => CarAt.heap (HCS.out l hl) rfl⟩) ?_ ?_
     ·simp (config := { maxSteps := 4000000 }) only [List.map, putAll, Act.put, InvE, List.setIfInBounds_toArray, List.set_cons_succ, List.set_cons_zero, Nat.reduceAdd]
      refine ⟨?_, ?_, ?_, ?_, ?_, ?_, ?_, ?_, ?_, ?_, ?_, ?_, ?_, ?_, ?_, trivial⟩
      all_goals
       intro L vs W hI hi hn hcl K hK
       rw [if_pos (by simp [Region.wanted])]
      ·have HK := Lib.hid (fun v h => hK v W ⟨pv_upd hI.pv h, hI.below, hI.bel, hI.c0, hI.c1, hI.new, hI.res, hI.cell0, hI.cell1, hI.cars⟩)
       clear hK hI hn hcl hi
       go_simp
       exact HK.out _ rfl
      ·have HK := Lib.hid (fun v h => hK v W ⟨pv_upd hI.pv h, hI.below, hI.bel, hI.c0, hI.c1, hI.new, hI.res, hI.cell0, hI.cell1, hI.cars⟩)
       clear hK hI hn hcl hi
       go_simp
       exact HK.out _ rfl
      ·have r1 : vs 1 = _ := hI.pv 1 (hn 1 rfl)
       simp only [r1] at hK |-
       have HK := Lib.hid (fun v h => hK v W ⟨pv_upd hI.pv h, hI.below, hI.bel, hI.c0, hI.c1, hI.new, hI.res, hI.cell0, hI.cell1, hI.cars⟩)
       clear hK hI hn hcl hi
       go_simp
       exact HK.out _ rfl
      ·have r2 : vs 2 = _ := hI.pv 2 (hn 2 rfl)
       simp only [r2] at hK |-
       have HK := Lib.hid (fun v h => hK v W ⟨pv_upd hI.pv h, hI.below, hI.bel, hI.c0, hI.c1, hI.new, hI.res, hI.cell0, hI.cell1, hI.cars⟩)
       clear hK hI hn hcl hi
       go_simp
       exact HK.out _ rfl
      ·have r3 : vs 3 = _ := hI.pv 3 (hn 3 rfl)
       have h14n : L 14 = false := by
        cases h : L 14
        ·rfl
        ·exact absurd (hcl 11 _ rfl (hcl 14 _ rfl h 11 rfl) 4 rfl) (Bool.eq_false_iff.1 hi)
       have y0 := BlockIs.of (hI.cell0 h14n) 0 _ rfl
       simp only [r3] at hK |-
       have HK := Lib.hid (fun v h => hK v W ⟨pv_upd hI.pv h, hI.below, hI.bel, hI.c0, hI.c1, hI.new, hI.res, hI.cell0, hI.cell1, hI.cars⟩)
       clear hK hI hn hcl hi h14n
       go_simp
       exact HK.out _ rfl
      ·have h11n : L 11 = false := by
        cases h : L 11
        ·rfl
        ·exact absurd (hcl 9 _ rfl (hcl 10 _ rfl (hcl 11 _ rfl h 10 rfl) 9 rfl) 5 rfl) (Bool.eq_false_iff.1 hi)
       have hz := HBX.out.ext (Ext.below (hI.bel h11n))
       obtain ⟨z0, z1, z2, z3⟩ := hz
       unfold IntAt at z0 z1 z2 z3
       simp only [Nat.zero_add] at z0 z1 z2 z3
       have HK := Lib.hid (fun v h => hK v W ⟨pv_upd hI.pv h, hI.below, hI.bel, hI.c0, hI.c1, hI.new, hI.res, hI.cell0, hI.cell1, hI.cars⟩)
       clear hK hI hn hcl hi h11n
       go_simp
       exact HK.out _ rfl
      ·have h10n : L 10 = false := by
        cases h : L 10
        ·rfl
        ·exact absurd (hcl 7 _ rfl (hcl 8 _ rfl (hcl 9 _ rfl (hcl 10 _ rfl h 9 rfl) 8 rfl) 7 rfl) 6 rfl) (Bool.eq_false_iff.1 hi)
       have h11n : L 11 = false := by
        cases h : L 11
        ·rfl
        ·exact absurd (hcl 7 _ rfl (hcl 8 _ rfl (hcl 9 _ rfl (hcl 10 _ rfl (hcl 11 _ rfl h 10 rfl) 9 rfl) 8 rfl) 7 rfl) 6 rfl) (Bool.eq_false_iff.1 hi)
       have h14n : L 14 = false := by
        cases h : L 14
        ·rfl
        ·exact absurd (hcl 7 _ rfl (hcl 8 _ rfl (hcl 9 _ rfl (hcl 10 _ rfl (hcl 11 _ rfl (hcl 14 _ rfl h 11 rfl) 10 rfl) 9 rfl) 8 rfl) 7 rfl) 6 rfl) (Bool.eq_false_iff.1 hi)
       have HK := Lib.hid hK
       have HI := Lib.hid hI
       have HF := Lib.hid (And.intro hi (And.intro h10n (And.intro h11n h14n)))
       clear hK hI hn hcl hi h10n h11n h14n
       go_simp
       go_at_call 63
       refine (smpNew_any W).mono ?_
       rintro e w' ⟨rfl, hs, hb⟩
       have hsz : W.heap.size = g := by rw [HI.out.c0 HF.out.1]; exact HG.out.symm
       rw [hsz] at hs |-
       exact HK.out _ _ ⟨pv_upd HI.out.pv rfl, bthen HI.out.below hb, (fun _ => bthen (HI.out.bel HF.out.2.2.1) hb), (fun q => absurd q (by simp [updB])), (fun _ => hs), (fun _ q => absurd q (Bool.eq_false_iff.1 HF.out.2.1)), (fun q => absurd q (Bool.eq_false_iff.1 HF.out.2.2.1)), (fun q => keep_at (HI.out.cell0 q) hb), (fun q => absurd q (Bool.eq_false_iff.1 HF.out.2.2.2)), fun l hl => (HI.out.cars l hl).keep hb⟩
      ·have r6 : vs 6 = _ := hI.pv 6 (hn 6 rfl)
       simp only [r6] at hK |-
       have HK := Lib.hid (fun v h => hK v W ⟨pv_upd hI.pv h, hI.below, hI.bel, hI.c0, hI.c1, hI.new, hI.res, hI.cell0, hI.cell1, hI.cars⟩)
       clear hK hI hn hcl hi
       go_simp
       exact HK.out _ rfl
      ·have r7 : vs 7 = _ := hI.pv 7 (hn 7 rfl)
       simp only [r7] at hK |-
       have HK := Lib.hid (fun v h => hK v W ⟨pv_upd hI.pv h, hI.below, hI.bel, hI.c0, hI.c1, hI.new, hI.res, hI.cell0, hI.cell1, hI.cars⟩)
       clear hK hI hn hcl hi
       go_simp
       exact HK.out _ rfl
      ·have r5 : vs 5 = _ := hI.pv 5 (hn 5 rfl)
       have r8 : vs 8 = _ := hI.pv 8 (hn 8 rfl)
       simp only [r5, r8] at hK |-
       have HK := Lib.hid (fun v h => hK v W ⟨pv_upd hI.pv h, hI.below, hI.bel, hI.c0, hI.c1, hI.new, hI.res, hI.cell0, hI.cell1, hI.cars⟩)
       clear hK hI hn hcl hi
       go_simp
       exact HK.out _ rfl
      ·have r9 : vs 9 = _ := hI.pv 9 (hn 9 rfl)
       have h11n : L 11 = false := by
        cases h : L 11
        ·rfl
        ·exact absurd (hcl 11 _ rfl h 10 rfl) (Bool.eq_false_iff.1 hi)
       have h14n : L 14 = false := by
        cases h : L 14
        ·rfl
        ·exact absurd (hcl 11 _ rfl (hcl 14 _ rfl h 11 rfl) 10 rfl) (Bool.eq_false_iff.1 hi)
       simp only [r9] at hK |-
       have HK := Lib.hid hK
       have HI := Lib.hid hI
       have HF := Lib.hid (And.intro h11n h14n)
       have HC := Lib.hid (hn 9 rfl)
       have H6 := Lib.hid (show L 6 = true from hcl 7 _ rfl (hcl 8 _ rfl (hcl 9 _ rfl (hn 9 rfl) 8 rfl) 7 rfl) 6 rfl)
       clear hK hI hn hcl hi h11n h14n
       go_simp
       have hb := balloc W (.cells (lineCells x (.smp g)).toArray 159)
       exact HK.out _ _ ⟨pv_upd HI.out.pv trivial, bthen HI.out.below hb, (fun _ => bthen (HI.out.bel HF.out.1) hb), (fun q => by have := H6.out; rw [show updB L 10 6 = L 6 from rfl, this] at q; cases q), (fun q => SmpAt.keep (HI.out.c1 q) hb), (fun _ _ => ⟨W.heap.size, rfl, blk_new _ _⟩), (fun q => absurd q (Bool.eq_false_iff.1 HF.out.1)), (fun q => keep_at (HI.out.cell0 q) hb), (fun q => absurd q (Bool.eq_false_iff.1 HF.out.2)), fun l hl => (HI.out.cars l hl).keep hb⟩
      ·have r4 : vs 4 = _ := hI.pv 4 (hn 4 rfl)
       have h14n : L 14 = false := by
        cases h : L 14
        ·rfl
        ·exact absurd (hcl 14 _ rfl h 11 rfl) (Bool.eq_false_iff.1 hi)
       have hA : L 11 = false := hi
       have h10 : L 10 = true := hn 10 rfl
       obtain ⟨g9, e19, hg⟩ := hI.new hA h10
       have hr : W.ownsRow w.heap.size 159 5 r n xs := Below.kept HRW.out (hI.bel hA)
       have hsrc : Src W (vs 10) 1 (lineCells x (.smp g)) := .inr ⟨⟨g9, 0, none⟩, 1, e19, fun j u hu => by rw [addr_add]; have h := BlockIs.of hg j u (by simpa using hu); simpa using h⟩
       refine wp_onto _ (.tmp 28) (.tmp 34) 149 rfl w.heap.size 159 _ 5 48 Tryz.underlying149 infoLine rfl (by decide) r n _ (hI.pv 4 (hn 4 rfl)) hr 1 (lineCells x (.smp g)) hsrc rfl (line_one x _) (by simp only [maxLen]; omega) (by omega) hI.below.size ?_
       intro v' w' ho hg2
       have hty : ∀ g, r.ownBlock = some g -> Typed W g 159 := fun g h => own_typed hr h
       refine hK v' w' ⟨pv_upd hI.pv trivial, hI.below.grown hg2 hI.below.size (fun q hq => (hr.lt q hq).1), (fun q => absurd q (by simp [updB])), (fun q => by have h6 : L 6 = true := hcl 7 _ rfl (hcl 8 _ rfl (hcl 9 _ rfl (hcl 10 _ rfl h10 9 rfl) 8 rfl) 7 rfl) 6 rfl; rw [show updB L 11 6 = L 6 from rfl, h6] at q; cases q), (fun q => SmpAt.apart (hI.c1 q) hg2 hty (by decide)), (fun q => absurd q (by simp [updB])), (fun _ => ho), (fun q => typed_apart (hI.cell0 q) hg2 hty (by decide)), (fun q => absurd q (Bool.eq_false_iff.1 h14n)), fun l hl => (hI.cars l hl).apart hg2 hty (by decide) (by decide) (by decide)⟩
      ·have r0 : vs 0 = _ := hI.pv 0 (hn 0 rfl)
       simp only [r0] at hK |-
       have HK := Lib.hid (fun v h => hK v W ⟨pv_upd hI.pv h, hI.below, hI.bel, hI.c0, hI.c1, hI.new, hI.res, hI.cell0, hI.cell1, hI.cars⟩)
       clear hK hI hn hcl hi
       go_simp
       exact HK.out _ rfl
      ·have r12 : vs 12 = _ := hI.pv 12 (hn 12 rfl)
       simp only [r12] at hK |-
       have HK := Lib.hid (fun v h => hK v W ⟨pv_upd hI.pv h, hI.below, hI.bel, hI.c0, hI.c1, hI.new, hI.res, hI.cell0, hI.cell1, hI.cars⟩)
       clear hK hI hn hcl hi
       go_simp
       exact HK.out _ rfl
      ·have r13 : vs 13 = _ := hI.pv 13 (hn 13 rfl)
       have h11 : L 11 = true := hn 11 rfl
       have h14n : L 14 = false := hi
       have hc := hI.cell0 h14n
       have hx := hI.res h11
       have y0 := BlockIs.of hc 0 _ rfl
       have f0 := thaw hc 0
       obtain ⟨ra, rc, e11⟩ := own_shape hx
       have hgs := set_grown W pb 0 (vs 11)
       have hty : ∀ g, some pb = some g -> Typed W g 151 := fun g h => by injection h with h; rw [<- h]; exact ⟨_, hc⟩
       have HN := Lib.hid (show NewInv w wq pb r n xs (lineCells x (.smp g)) Ls (NaV pb g r x) (fun W => SmpAt W g []) 6 (updB L 14) (upd vs 14 undef) (W.setCell ⟨pb, 0, none⟩ (vs 11)) from ⟨pv_upd hI.pv trivial, hI.below.grown hgs hI.below.size (fun q hq => by injection hq with hq; rw [<- hq]; exact HPL.out), (fun q => by rw [show updB L 14 11 = L 11 from rfl, h11] at q; cases q), (fun q => by have h6 : L 6 = true := hcl 7 _ rfl (hcl 8 _ rfl (hcl 9 _ rfl (hcl 10 _ rfl (hcl 11 _ rfl h11 10 rfl) 9 rfl) 8 rfl) 7 rfl) 6 rfl; rw [show updB L 14 6 = L 6 from rfl, h6] at q; cases q), (fun q => SmpAt.apart (hI.c1 q) hgs hty (by decide)), (fun q => by rw [show updB L 14 11 = L 11 from rfl, h11] at q; cases q), (fun _ => own_apart hx hgs hty (by decide)), (fun q => absurd q (by simp [updB])), (fun _ => blk_set hc 0 (vs 11)), fun l hl => (hI.cars l hl).apart hgs hty (by decide) (by decide) (by decide)⟩)
       rw [e11] at HN
       simp only [r13, e11] at hK |-
       have HK := Lib.hid hK
       clear hK hI hn hcl hi hc hx hgs hty h11 h14n e11
       go_simp
       exact HK.out _ _ HN.out
     ·intro vs W hI
      simp only [List.map, putAll, Act.put, List.setIfInBounds_toArray, List.set_cons_succ, List.set_cons_zero, Nat.reduceAdd]
      have hres := hI.res (by simp)
      have hcell := hI.cell1 (by simp)
      have hc1 := hI.c1 (by simp)
      have r0 : vs 0 = _ := hI.pv 0 (by simp)
      have r1 : vs 1 = _ := hI.pv 1 (by simp)
      have r2 : vs 2 = _ := hI.pv 2 (by simp)
      have r3 : vs 3 = _ := hI.pv 3 (by simp)
      have r4 : vs 4 = _ := hI.pv 4 (by simp)
      have r5 : vs 5 = _ := hI.pv 5 (by simp)
      have r6 : vs 6 = _ := hI.pv 6 (by simp)
      have r7 : vs 7 = _ := hI.pv 7 (by simp)
      have r8 : vs 8 = _ := hI.pv 8 (by simp)
      have r9 : vs 9 = _ := hI.pv 9 (by simp)
      have r12 : vs 12 = _ := hI.pv 12 (by simp)
      have r13 : vs 13 = _ := hI.pv 13 (by simp)
      have HBW := Lib.hid hI.below
      have HCW := Lib.hid hI.cars
      obtain ⟨ra, rc, e11⟩ := own_shape hres
      have HRS := Lib.hid (And.intro hres (And.intro hcell hc1))
      simp only [r0, r1, r2, r3, r4, r5, r6, r7, r8, r9, r12, r13]
      clear hI hres hcell hc1 r0 r1 r2 r3 r4 r5 r6 r7 r8 r9 r12 r13
      go_wp2_with fail
      refine ⟨⟨k + 1, Ls ++ [⟨x, .smp g, []⟩], by omega, rfl, Lib.hid (by rw [List.map_append, HLS.out, HTX.out]; rfl), Lib.hid (fun l hl => ?_), Lib.hid ?_, HBW⟩, by simp [intOf]; omega⟩
      ·rcases List.mem_append.1 hl with hl | hl
       ·exact HQS.out l hl
       ·rw [List.mem_singleton.1 hl]
      ·have hgW : wr.heap.size < g /\ g < W.heap.size := ⟨by rw [HG.out, HNX.out.2.2]; have := HS3.out; omega, lt_of_block HRS.out.2.2.2⟩
       have hrow := HRS.out.1
       rw [HNX.out.2.1] at hrow
       exact PortsAt.add HPL.out HPA.out.pb2 (by omega) HNX.out.1 HRS.out.2.1 hrow HCW.out HPA.out.blks HPA.out.kind HPA.out.ne HRS.out.2.2 (fun b hb => by have : b = g := (by simpa [Car.all] using hb); omega) HBR.out.size (.inl ⟨HKI.out, g, rfl⟩)
    ·have hkind1 : x.kind = 1 := by have := HPX.out; omega
     have hkk : (x.kind == 0) = false := by simpa using hkind
     have HKI := Lib.hid hkind1
     have HQN := queNew_any x.size.toNat w3 (by have := HPX.out; omega) (by have := HPX.out; omega)
     rw [show ((x.size.toNat : Nat) : Int) = x.size by have := HPX.out; omega] at HQN
     have HQH := Lib.hid HQN
     clear HQN hkind hkind1
     go_wp2_with fail
     refine HQH.out.mono ?_
     rintro e wq ⟨g, rb, rfl, hrb, hqb, hgb, hring, hb⟩
     have hb3 := bthen HW3.out.1 hb
     have HGB := Lib.hid (show wr.heap.size <= g /\ wr.heap.size <= rb by have := HS3.out; omega)
     have HB := Lib.hid (bthen HBR.out hb3)
     have HPB := Lib.hid (show wq.heap[pb]? = some (.cells #[r] 151 (0, 0)) from keep_at HR3.out.1 hb3)
     obtain ⟨n, hn⟩ : ∃ n, n = Ls.length := ⟨_, rfl⟩
     obtain ⟨xs, hxs⟩ : ∃ xs, xs = Ls.flatMap (fun l => lineCells l.p l.c) := ⟨_, rfl⟩
     have HRW := Lib.hid (show wq.ownsRow w.heap.size 159 5 r n xs by rw [hn, hxs]; exact Below.kept HR3.out.2.1 hb3)
     have HBX := Lib.hid (HX3.out.ext (Ext.below hb))
     have hn9 : n <= 8 := by omega
     have HNX := Lib.hid (And.intro hn (And.intro hxs trivial))
     have HCS := Lib.hid (show ∀ l ∈ Ls ++ [⟨x, .que g rb, []⟩], CarAt wq l.c l.k l.q from fun l hl => by
      rcases List.mem_append.1 hl with hl | hl
      ·exact (HPA.out.cars l hl).keep hb3
      ·rw [List.mem_singleton.1 hl]; exact ⟨hqb, hring⟩)
     clear hn hxs hrb hqb hgb hring hb hb3 z0 z1 z2 z3
     obtain ⟨z0, z1, z2, z3⟩ := HBX.out
     unfold IntAt at z0 z1 z2 z3
     simp only [Nat.zero_add] at z0 z1 z2 z3
     go_wp2_with fail
     refine region_inv0 rfl (by kernel_rfl) (NewInv w wq pb r n xs (lineCells x (.que g rb)) (Ls ++ [⟨x, .que g rb, []⟩]) (NbV pb g r x) (fun _ => True) 10) (fun vs h0 => ⟨(fun i h => by cases h), below_drew HB.out, (fun _ => below_drew (Below.refl _ _)), (fun _ => rfl), (fun h => by cases h), (fun _ h => by cases h), (fun h => by cases h), (fun _ => HPB.out), (fun h => by cases h), fun l hl => CarAt.heap (HCS.out l hl) rfl⟩) ?_ ?_
     ·simp (config := { maxSteps := 4000000 }) only [List.map, putAll, Act.put, InvE, List.setIfInBounds_toArray, List.set_cons_succ, List.set_cons_zero, Nat.reduceAdd]
      refine ⟨?_, ?_, ?_, ?_, ?_, ?_, ?_, ?_, ?_, ?_, ?_, ?_, ?_, ?_, ?_, trivial⟩
      all_goals
       intro L vs W hI hi hn hcl K hK
       rw [if_pos (by simp [Region.wanted])]
      ·have HK := Lib.hid (fun v h => hK v W ⟨pv_upd hI.pv h, hI.below, hI.bel, hI.c0, hI.c1, hI.new, hI.res, hI.cell0, hI.cell1, hI.cars⟩)
       clear hK hI hn hcl hi
       go_simp
       exact HK.out _ rfl
      ·have HK := Lib.hid (fun v h => hK v W ⟨pv_upd hI.pv h, hI.below, hI.bel, hI.c0, hI.c1, hI.new, hI.res, hI.cell0, hI.cell1, hI.cars⟩)
       clear hK hI hn hcl hi
       go_simp
       exact HK.out _ rfl
      ·have r1 : vs 1 = _ := hI.pv 1 (hn 1 rfl)
       simp only [r1] at hK |-
       have HK := Lib.hid (fun v h => hK v W ⟨pv_upd hI.pv h, hI.below, hI.bel, hI.c0, hI.c1, hI.new, hI.res, hI.cell0, hI.cell1, hI.cars⟩)
       clear hK hI hn hcl hi
       go_simp
       exact HK.out _ rfl
      ·have r2 : vs 2 = _ := hI.pv 2 (hn 2 rfl)
       simp only [r2] at hK |-
       have HK := Lib.hid (fun v h => hK v W ⟨pv_upd hI.pv h, hI.below, hI.bel, hI.c0, hI.c1, hI.new, hI.res, hI.cell0, hI.cell1, hI.cars⟩)
       clear hK hI hn hcl hi
       go_simp
       exact HK.out _ rfl
      ·have r3 : vs 3 = _ := hI.pv 3 (hn 3 rfl)
       have h14n : L 14 = false := by
        cases h : L 14
        ·rfl
        ·exact absurd (hcl 11 _ rfl (hcl 14 _ rfl h 11 rfl) 4 rfl) (Bool.eq_false_iff.1 hi)
       have y0 := BlockIs.of (hI.cell0 h14n) 0 _ rfl
       simp only [r3] at hK |-
       have HK := Lib.hid (fun v h => hK v W ⟨pv_upd hI.pv h, hI.below, hI.bel, hI.c0, hI.c1, hI.new, hI.res, hI.cell0, hI.cell1, hI.cars⟩)
       clear hK hI hn hcl hi h14n
       go_simp
       exact HK.out _ rfl
      ·have h11n : L 11 = false := by
        cases h : L 11
        ·rfl
        ·exact absurd (hcl 9 _ rfl (hcl 10 _ rfl (hcl 11 _ rfl h 10 rfl) 9 rfl) 5 rfl) (Bool.eq_false_iff.1 hi)
       have hz := HBX.out.ext (Ext.below (hI.bel h11n))
       obtain ⟨z0, z1, z2, z3⟩ := hz
       unfold IntAt at z0 z1 z2 z3
       simp only [Nat.zero_add] at z0 z1 z2 z3
       have HK := Lib.hid (fun v h => hK v W ⟨pv_upd hI.pv h, hI.below, hI.bel, hI.c0, hI.c1, hI.new, hI.res, hI.cell0, hI.cell1, hI.cars⟩)
       clear hK hI hn hcl hi h11n
       go_simp
       exact HK.out _ rfl
      ·have HK := Lib.hid (fun v h => hK v W ⟨pv_upd hI.pv h, hI.below, hI.bel, hI.c0, hI.c1, hI.new, hI.res, hI.cell0, hI.cell1, hI.cars⟩)
       clear hK hI hn hcl hi
       go_simp
       exact HK.out _ rfl
      ·have r6 : vs 6 = _ := hI.pv 6 (hn 6 rfl)
       simp only [r6] at hK |-
       have HK := Lib.hid (fun v h => hK v W ⟨pv_upd hI.pv h, hI.below, hI.bel, hI.c0, hI.c1, hI.new, hI.res, hI.cell0, hI.cell1, hI.cars⟩)
       clear hK hI hn hcl hi
       go_simp
       exact HK.out _ rfl
      ·have r7 : vs 7 = _ := hI.pv 7 (hn 7 rfl)
       simp only [r7] at hK |-
       have HK := Lib.hid (fun v h => hK v W ⟨pv_upd hI.pv h, hI.below, hI.bel, hI.c0, hI.c1, hI.new, hI.res, hI.cell0, hI.cell1, hI.cars⟩)
       clear hK hI hn hcl hi
       go_simp
       exact HK.out _ rfl
      ·have r5 : vs 5 = _ := hI.pv 5 (hn 5 rfl)
       have r8 : vs 8 = _ := hI.pv 8 (hn 8 rfl)
       simp only [r5, r8] at hK |-
       have HK := Lib.hid (fun v h => hK v W ⟨pv_upd hI.pv h, hI.below, hI.bel, hI.c0, hI.c1, hI.new, hI.res, hI.cell0, hI.cell1, hI.cars⟩)
       clear hK hI hn hcl hi
       go_simp
       exact HK.out _ rfl
      ·have r9 : vs 9 = _ := hI.pv 9 (hn 9 rfl)
       have h11n : L 11 = false := by
        cases h : L 11
        ·rfl
        ·exact absurd (hcl 11 _ rfl h 10 rfl) (Bool.eq_false_iff.1 hi)
       have h14n : L 14 = false := by
        cases h : L 14
        ·rfl
        ·exact absurd (hcl 11 _ rfl (hcl 14 _ rfl h 11 rfl) 10 rfl) (Bool.eq_false_iff.1 hi)
       simp only [r9] at hK |-
       have HK := Lib.hid hK
       have HI := Lib.hid hI
       have HF := Lib.hid (And.intro h11n h14n)
       clear hK hI hn hcl hi h11n h14n
       go_simp
       have hb := balloc W (.cells (lineCells x (.que g rb)).toArray 159)
       exact HK.out _ _ ⟨pv_upd HI.out.pv trivial, bthen HI.out.below hb, (fun _ => bthen (HI.out.bel HF.out.1) hb), (fun q => absurd q (by simp [updB])), (fun _ => trivial), (fun _ _ => ⟨W.heap.size, rfl, blk_new _ _⟩), (fun q => absurd q (Bool.eq_false_iff.1 HF.out.1)), (fun q => keep_at (HI.out.cell0 q) hb), (fun q => absurd q (Bool.eq_false_iff.1 HF.out.2)), fun l hl => (HI.out.cars l hl).keep hb⟩
      ·have r4 : vs 4 = _ := hI.pv 4 (hn 4 rfl)
       have h14n : L 14 = false := by
        cases h : L 14
        ·rfl
        ·exact absurd (hcl 14 _ rfl h 11 rfl) (Bool.eq_false_iff.1 hi)
       have hA : L 11 = false := hi
       have h10 : L 10 = true := hn 10 rfl
       obtain ⟨g9, e19, hg⟩ := hI.new hA h10
       have hr : W.ownsRow w.heap.size 159 5 r n xs := Below.kept HRW.out (hI.bel hA)
       have hsrc : Src W (vs 10) 1 (lineCells x (.que g rb)) := .inr ⟨⟨g9, 0, none⟩, 1, e19, fun j u hu => by rw [addr_add]; have h := BlockIs.of hg j u (by simpa using hu); simpa using h⟩
       refine wp_onto _ (.tmp 48) (.tmp 54) 149 rfl w.heap.size 159 _ 5 48 Tryz.underlying149 infoLine rfl (by decide) r n _ (hI.pv 4 (hn 4 rfl)) hr 1 (lineCells x (.que g rb)) hsrc rfl (line_one x _) (by simp only [maxLen]; omega) (by omega) hI.below.size ?_
       intro v' w' ho hg2
       have hty : ∀ g, r.ownBlock = some g -> Typed W g 159 := fun g h => own_typed hr h
       refine hK v' w' ⟨pv_upd hI.pv trivial, hI.below.grown hg2 hI.below.size (fun q hq => (hr.lt q hq).1), (fun q => absurd q (by simp [updB])), (fun q => by rw [show updB L 11 10 = L 10 from rfl, h10] at q; cases q), (fun _ => trivial), (fun q => absurd q (by simp [updB])), (fun _ => ho), (fun q => typed_apart (hI.cell0 q) hg2 hty (by decide)), (fun q => absurd q (Bool.eq_false_iff.1 h14n)), fun l hl => (hI.cars l hl).apart hg2 hty (by decide) (by decide) (by decide)⟩
      ·have r0 : vs 0 = _ := hI.pv 0 (hn 0 rfl)
       simp only [r0] at hK |-
       have HK := Lib.hid (fun v h => hK v W ⟨pv_upd hI.pv h, hI.below, hI.bel, hI.c0, hI.c1, hI.new, hI.res, hI.cell0, hI.cell1, hI.cars⟩)
       clear hK hI hn hcl hi
       go_simp
       exact HK.out _ rfl
      ·have r12 : vs 12 = _ := hI.pv 12 (hn 12 rfl)
       simp only [r12] at hK |-
       have HK := Lib.hid (fun v h => hK v W ⟨pv_upd hI.pv h, hI.below, hI.bel, hI.c0, hI.c1, hI.new, hI.res, hI.cell0, hI.cell1, hI.cars⟩)
       clear hK hI hn hcl hi
       go_simp
       exact HK.out _ rfl
      ·have r13 : vs 13 = _ := hI.pv 13 (hn 13 rfl)
       have h11 : L 11 = true := hn 11 rfl
       have h14n : L 14 = false := hi
       have hc := hI.cell0 h14n
       have hx := hI.res h11
       have y0 := BlockIs.of hc 0 _ rfl
       have f0 := thaw hc 0
       obtain ⟨ra, rc, e11⟩ := own_shape hx
       have hgs := set_grown W pb 0 (vs 11)
       have hty : ∀ g, some pb = some g -> Typed W g 151 := fun g h => by injection h with h; rw [<- h]; exact ⟨_, hc⟩
       have HN := Lib.hid (show NewInv w wq pb r n xs (lineCells x (.que g rb)) (Ls ++ [⟨x, .que g rb, []⟩]) (NbV pb g r x) (fun _ => True) 10 (updB L 14) (upd vs 14 undef) (W.setCell ⟨pb, 0, none⟩ (vs 11)) from ⟨pv_upd hI.pv trivial, hI.below.grown hgs hI.below.size (fun q hq => by injection hq with hq; rw [<- hq]; exact HPL.out), (fun q => by rw [show updB L 14 11 = L 11 from rfl, h11] at q; cases q), (fun q => by have h10 : L 10 = true := hcl 11 _ rfl h11 10 rfl; rw [show updB L 14 10 = L 10 from rfl, h10] at q; cases q), (fun _ => trivial), (fun q => by rw [show updB L 14 11 = L 11 from rfl, h11] at q; cases q), (fun _ => own_apart hx hgs hty (by decide)), (fun q => absurd q (by simp [updB])), (fun _ => blk_set hc 0 (vs 11)), fun l hl => (hI.cars l hl).apart hgs hty (by decide) (by decide) (by decide)⟩)
       rw [e11] at HN
       simp only [r13, e11] at hK |-
       have HK := Lib.hid hK
       clear hK hI hn hcl hi hc hx hgs hty h11 h14n e11
       go_simp
       exact HK.out _ _ HN.out
     ·intro vs W hI
      simp only [List.map, putAll, Act.put, List.setIfInBounds_toArray, List.set_cons_succ, List.set_cons_zero, Nat.reduceAdd]
      have hres := hI.res (by simp)
      have hcell := hI.cell1 (by simp)
      have hc1 := hI.c1 (by simp)
      have r0 : vs 0 = _ := hI.pv 0 (by simp)
      have r1 : vs 1 = _ := hI.pv 1 (by simp)
      have r2 : vs 2 = _ := hI.pv 2 (by simp)
      have r3 : vs 3 = _ := hI.pv 3 (by simp)
      have r4 : vs 4 = _ := hI.pv 4 (by simp)
      have r5 : vs 5 = _ := hI.pv 5 (by simp)
      have r6 : vs 6 = _ := hI.pv 6 (by simp)
      have r7 : vs 7 = _ := hI.pv 7 (by simp)
      have r8 : vs 8 = _ := hI.pv 8 (by simp)
      have r9 : vs 9 = _ := hI.pv 9 (by simp)
      have r12 : vs 12 = _ := hI.pv 12 (by simp)
      have r13 : vs 13 = _ := hI.pv 13 (by simp)
      have HBW := Lib.hid hI.below
      have HCW := Lib.hid hI.cars
      obtain ⟨ra, rc, e11⟩ := own_shape hres
      have HRS := Lib.hid (And.intro hres (And.intro hcell hc1))
      simp only [r0, r1, r2, r3, r4, r5, r6, r7, r8, r9, r12, r13]
      clear hI hres hcell hc1 r0 r1 r2 r3 r4 r5 r6 r7 r8 r9 r12 r13
      go_wp2_with fail
      refine ⟨⟨k + 1, Ls ++ [⟨x, .que g rb, []⟩], by omega, rfl, Lib.hid (by rw [List.map_append, HLS.out, HTX.out]; rfl), Lib.hid (fun l hl => ?_), Lib.hid ?_, HBW⟩, by simp [intOf]; omega⟩
      ·rcases List.mem_append.1 hl with hl | hl
       ·exact HQS.out l hl
       ·rw [List.mem_singleton.1 hl]
      ·have hgW : wr.heap.size <= g /\ g < W.heap.size /\ wr.heap.size <= rb /\ rb < W.heap.size := by have h := HCW.out ⟨x, .que g rb, []⟩ (by simp); exact ⟨HGB.out.1, lt_of_block h.1, HGB.out.2, h.2.lt⟩
       have hrow := HRS.out.1
       rw [HNX.out.2.1] at hrow
       exact PortsAt.add HPL.out HPA.out.pb2 (by omega) HNX.out.1 HRS.out.2.1 hrow (fun l hl => HCW.out l (List.mem_append_left _ hl)) HPA.out.blks HPA.out.kind HPA.out.ne (HCW.out ⟨x, .que g rb, []⟩ (by simp)) (fun b hb => by have : b = g ∨ b = rb := (by simpa [Car.all] using hb); omega) HBR.out.size (.inr ⟨HKI.out, g, rb, rfl⟩)
   ·obtain rfl : k = c.ports.length := by omega
    rw [List.take_length] at HLS
    go_wp2_with fail
    go_ret2
    exact ⟨fun h => absurd HCK.out h, fun _ => ⟨pb, Ls, rfl, HPA.out, HLS.out, HQS.out⟩, HBR.out⟩
 ·have hck' : (checkCfg c != 0) = true := by simpa using hck
  obtain ⟨pe, hpe⟩ : ∃ pe, pe = checkCfg c := ⟨_, rfl⟩
  rw [<- hpe] at hck' |-
  rintro e w1 ⟨rfl, hb⟩
  have HB1 := Lib.hid (bthen HBA.out hb)
  have HCK := Lib.hid hck
  clear hb hck hpe y0 y1 y2 y3 y4
  go_wp2_with fail
  go_ret2
  exact ⟨fun _ => rfl, fun h => absurd h HCK.out, HB1.out⟩
end Go.Proofs.YtooeeiiiflfckaaGreat
/- package ports: Write, Take. -/
namespace Go.Proofs.YtooeeiiiflfckaaGreat
open Go.RowKit
abbrev PSt := List (Port × List Int)
def p0 : Port × List Int := (⟨0, 0, 0, 0⟩, [])
def putP (s : Port × List Int) (x : Int) : List Int := if s.1.kind = 0 then [x] else pushQ s.1.size.toNat s.2 x
def dropP (s : Port × List Int) : Bool := if s.1.kind = 0 then false else decide (s.2.length = s.1.size.toNat)
def takeP (s : Port × List Int) : List Int := if s.1.kind = 0 then s.2 else s.2.tail
def wErr (S : PSt) (part port x : Int) : Int := if port < 0 ∨ (S.length : Int) <= port ∨ x < 0 ∨ 4294967296 <= x then 1700 else if (S.getD port.toNat p0).1.from_ ≠ part then 1701 else 0
def wDrop (S : PSt) (part port x : Int) : Bool := decide (wErr S part port x = 0) && dropP (S.getD port.toNat p0)
def wSt (S : PSt) (part port x : Int) : PSt := if wErr S part port x = 0 then S.set port.toNat ((S.getD port.toNat p0).1, putP (S.getD port.toNat p0) x) else S
def tErr (S : PSt) (part port : Int) : Int := if port < 0 ∨ (S.length : Int) <= port then 1700 else if (S.getD port.toNat p0).1.to_ ≠ part then 1701 else 0
def tVal (S : PSt) (part port : Int) : Int := if tErr S part port = 0 then (S.getD port.toNat p0).2.headD 0 else 0
def tIs (S : PSt) (part port : Int) : Bool := decide (tErr S part port = 0) && !(S.getD port.toNat p0).2.isEmpty
def tSt (S : PSt) (part port : Int) : PSt := if tErr S part port = 0 then S.set port.toNat ((S.getD port.toNat p0).1, takeP (S.getD port.toNat p0)) else S
def Ln.st (l : Ln) : Port × List Int := (l.p, l.q)
def PortsIs (W : World) (pb lo hi : Nat) (S : PSt) : Prop := ∃ Ls, PortsAt W pb lo hi Ls /\ S = Ls.map Ln.st
def Between (lo hi k : Nat) : Prop := lo <= k /\ k < hi
theorem PortsAt.line {W : World} {pb lo hi : Nat} {Ls : List Ln} (h : PortsAt W pb lo hi Ls) : ∃ la lc, W.heap[pb]? = some (.cells #[.slice la Ls.length lc] 151 (0, 0)) /\ ∀ i (hi : i < Ls.length), ∃ lb, la = some ⟨lb, 0, none⟩ /\ ∀ j v, (lineCells Ls[i].p Ls[i].c)[j]? = some v -> W.cell? ⟨lb, i * 5 + j, none⟩ = some v := by
 obtain ⟨v, h1, h2, h3⟩ := h.row
 obtain ⟨la, lc, rfl⟩ := own_shape h2
 refine ⟨la, lc, h1, fun i hi => ?_⟩
 obtain ⟨g, cap', e, hg, hn, hm⟩ := ownsRow_some h2 (by omega)
 injection e with e _ _
 subst e
 refine ⟨g, rfl, fun j v hj => ?_⟩
 have hj5 : j < 5 := (List.getElem?_eq_some_iff.1 hj).1
 have hlt : i * 5 + j < Ls.length * 5 := by omega
 rw [h2.cellAt _ hlt, flat_get (fun l : Ln => lineCells l.p l.c) 5 (fun _ => rfl) Ls i hi j hj5]
 exact hj
theorem PortsAt.keep {W W' : World} {pb lo hi : Nat} {Ls : List Ln} (h : PortsAt W pb lo hi Ls) (hb : Below W.heap.size W W') : PortsAt W' pb lo hi Ls := by
 obtain ⟨v, h1, h2, h3⟩ := h.row
 exact ⟨h.pb1, h.pb2, Nat.le_trans h.hi2 hb.size, ⟨v, keep_at h1 hb, Below.kept h2 hb, h3⟩, fun l hl => (h.cars l hl).keep hb, h.blks, h.kind, h.ne⟩
theorem PortsAt.far {W W' : World} {pb lo hi : Nat} {Ls : List Ln} (h : PortsAt W pb lo hi Ls) {F : Nat -> Prop} (hk : Keeps F W W') (hF : ∀ k, lo <= k -> k < hi -> ¬ F k) : PortsAt W' pb lo hi Ls := by
 obtain ⟨v, h1, h2, h3⟩ := h.row
 refine ⟨h.pb1, h.pb2, Nat.le_trans h.hi2 hk.size, ⟨v, hk.at h1 (hF pb h.pb1 h.pb2), hk.own h2 (fun g hg => hF g (h2.lt g hg).1 (h3 g hg)), h3⟩, fun l hl => ?_, h.blks, h.kind, h.ne⟩
 have hc := h.cars l hl
 have hb := h.blks l hl
 obtain ⟨p, c, q⟩ := l
 cases c with
 | smp g =>
  have := hb g (by simp [Car.all])
  exact ⟨hc.1, hk.at hc.2 (hF g this.1 this.2)⟩
 | que qb rb =>
  have h1 := hb qb (by simp [Car.all])
  have h2 := hb rb (by simp [Car.all])
  exact ⟨hk.at hc.1 (hF qb h1.1 h1.2), hc.2.keep (hk.block rb hc.2.lt (hF rb h2.1 h2.2))⟩
theorem car_apart {W W' : World} {c c' : Car} {k k' : Nat} {q q' : List Int} (h : CarAt W c k q) (h' : CarAt W c' k' q') (hne : c.blk ≠ c'.blk) (hg : W.grownBy W' (some c'.blk)) : CarAt W' c k q := by
 have hq : ∀ {qb rb : Nat}, W.heap[qb]? = some (.cells #[.pointer (some ⟨rb, 0, none⟩)] 204 (0, 0)) -> W'.heap[qb]? = some (.cells #[.pointer (some ⟨rb, 0, none⟩)] 204 (0, 0)) := by
  intro qb rb hq
  cases c' with
  | smp g => exact typed_apart hq hg (fun g' e => by injection e with e; rw [<- e]; exact ⟨_, h'.2⟩) (by decide)
  | que qb' rb' =>
   obtain ⟨_, cs, f, hr⟩ := h'
   exact typed_apart hq hg (fun g' e => by injection e with e; rw [<- e]; exact ⟨_, hr.blk⟩) (by decide)
 have hb : ∀ {o : Obj}, W.heap[c.blk]? = some o -> W'.heap[c.blk]? = some o := fun ho => (hg.block _ (lt_of_block ho) (fun e => by injection e with e; exact hne e)).trans ho
 cases c with
 | smp g => exact ⟨h.1, hb h.2⟩
 | que qb rb => exact ⟨hq h.1, h.2.keep (hg.block _ h.2.lt (fun e => by injection e with e; exact hne e))⟩
theorem car_typed {W : World} {c : Car} {k : Nat} {q : List Int} (h : CarAt W c k q) : ∃ t, Typed W c.blk t /\ (t = 202 ∨ t = 148) := by
 cases c with
 | smp g => exact ⟨_, ⟨_, h.2⟩, .inl rfl⟩
 | que qb rb =>
  obtain ⟨_, cs, f, hr⟩ := h
  exact ⟨_, ⟨_, hr.blk⟩, .inr rfl⟩
theorem PortsAt.set {W W' : World} {pb lo hi : Nat} {Ls : List Ln} (h : PortsAt W pb lo hi Ls) {i : Nat} (hi' : i < Ls.length) {q' : List Int} (hc : CarAt W' Ls[i].c Ls[i].k q') (hg : W.grownBy W' (some Ls[i].c.blk)) : PortsAt W' pb lo hi (Ls.set i ⟨Ls[i].p, Ls[i].c, q'⟩) := by
 obtain ⟨t, ht, htt⟩ := car_typed (h.cars _ (List.getElem_mem hi'))
 have hty : ∀ g, some Ls[i].c.blk = some g -> Typed W g t := fun g e => by injection e with e; rw [<- e]; exact ht
 obtain ⟨v, h1, h2, h3⟩ := h.row
 have hmem : ∀ l ∈ Ls.set i ⟨Ls[i].p, Ls[i].c, q'⟩, ∃ l' ∈ Ls, l'.p = l.p /\ l'.c = l.c := by
  intro l hl
  rcases List.mem_or_eq_of_mem_set hl with hl | rfl
  ·exact ⟨l, hl, rfl, rfl⟩
  ·exact ⟨Ls[i], List.getElem_mem hi', rfl, rfl⟩
 have hflat : (Ls.set i ⟨Ls[i].p, Ls[i].c, q'⟩).flatMap (fun l => lineCells l.p l.c) = Ls.flatMap (fun l => lineCells l.p l.c) := by
  have : (Ls.set i ⟨Ls[i].p, Ls[i].c, q'⟩).map (fun l => lineCells l.p l.c) = Ls.map (fun l => lineCells l.p l.c) := by
   rw [List.map_set]
   exact List.ext_getElem (by simp) (fun j hj1 hj2 => by
    rw [List.getElem_set]
    split
    ·subst_vars; simp
    ·rfl)
  rw [List.flatMap_def, List.flatMap_def, this]
 refine ⟨h.pb1, h.pb2, Nat.le_trans h.hi2 hg.size, ⟨v, ?_, ?_, h3⟩, ?_, ?_, ?_, ?_⟩
 ·exact typed_apart h1 hg hty (by rcases htt with rfl | rfl <;> decide)
 ·rw [List.length_set, hflat]
  exact own_apart h2 hg hty (by rcases htt with rfl | rfl <;> decide)
 ·intro l hl
  obtain ⟨j, hj, rfl⟩ := List.mem_iff_getElem.1 hl
  rw [List.length_set] at hj
  rw [List.getElem_set]
  split
  ·subst_vars; exact hc
  ·rename_i hne
   refine car_apart (h.cars _ (List.getElem_mem hj)) (h.cars _ (List.getElem_mem hi')) ?_ hg
   rcases Nat.lt_or_gt_of_ne hne with hlt | hlt
   ·exact fun e => (List.pairwise_iff_getElem.1 h.ne) i j hi' hj hlt e.symm
   ·exact (List.pairwise_iff_getElem.1 h.ne) j i hj hi' hlt
 ·intro l hl b hb
  obtain ⟨l', hl', _, e⟩ := hmem l hl
  exact h.blks l' hl' b (e ▸ hb)
 ·intro l hl
  obtain ⟨l', hl', e1, e2⟩ := hmem l hl
  have := h.kind l' hl'
  rw [e1, e2] at this
  exact this
 ·rw [List.pairwise_iff_getElem] at *
  have hp := List.pairwise_iff_getElem.1 h.ne
  intro a b ha hb hab
  rw [List.length_set] at ha hb
  have e : ∀ j (hj : j < Ls.length), ((Ls.set i ⟨Ls[i].p, Ls[i].c, q'⟩)[j]'(by simpa using hj)).c = Ls[j].c := by
   intro j hj
   rw [List.getElem_set]
   split
   ·subst_vars; rfl
   ·rfl
  rw [e a ha, e b hb]
  exact hp a b ha hb hab
theorem wordMay_any (x : Int) (w : World) : Calls Tryz.prog 102 #[.int .i64 x] w fun e w' => e = .returned (.bool (decide (0 <= x /\ x < 4294967296))) /\ w' = w := by
 go_enter Tryz.func102, Tryz.ntmps102
 by_cases h : 0 <= x
 ·have h' : decide (0 <= x) = true := decide_eq_true h
  go_wp2_with fail
  go_ret
  exact ⟨ret_bool (by simp [h]), rfl⟩
 ·have h' : decide (0 <= x) = false := decide_eq_false h
  go_wp2_with fail
  go_ret
  exact ⟨ret_bool (by simp [h]), rfl⟩
theorem there_any (pb : Nat) (la : Option Addr) (n lc : Nat) (port : Int) (w : World) (hp : w.cell? ⟨pb, 0, none⟩ = some (.slice la n lc)) : Calls Tryz.prog 142 #[.pointer (some ⟨pb, 0, none⟩), .int .i64 port] w fun e w' => e = .returned (.bool (decide (0 <= port /\ port < n))) /\ w' = w := by
 go_enter Tryz.func142, Tryz.ntmps142
 by_cases h : 0 <= port
 ·have h' : decide (0 <= port) = true := decide_eq_true h
  go_wp2_with fail
  go_ret
  exact ⟨ret_bool (by simp [h]), rfl⟩
 ·have h' : decide (0 <= port) = false := decide_eq_false h
  go_wp2_with fail
  go_ret
  exact ⟨ret_bool (by simp [h]), rfl⟩
theorem meth_sput (n : Nat) (v : Value) (w : World) : (method (n + 1) 155 v "nocturn/ports.put").run Tryz.prog w = .ok (179, v) w := by kernel_rfl
theorem meth_speek (n : Nat) (v : Value) (w : World) : (method (n + 1) 155 v "nocturn/ports.peek").run Tryz.prog w = .ok (178, v) w := by kernel_rfl
theorem meth_sread (n : Nat) (v : Value) (w : World) : (method (n + 1) 155 (.agg #[v]) "Read").run Tryz.prog w = .ok (176, v) w := by kernel_rfl
theorem meth_qput (n : Nat) (v : Value) (w : World) : (method (n + 1) 164 v "nocturn/ports.put").run Tryz.prog w = .ok (183, v) w := by kernel_rfl
theorem meth_qpeek (n : Nat) (v : Value) (w : World) : (method (n + 1) 164 v "nocturn/ports.peek").run Tryz.prog w = .ok (182, v) w := by kernel_rfl
theorem meth_qread (n : Nat) (v : Value) (w : World) : (method (n + 1) 164 (.agg #[v]) "Read").run Tryz.prog w = .ok (181, v) w := by kernel_rfl
set_option maxRecDepth 100000 in
set_option maxHeartbeats 8000000 in
theorem ports_write (pb lo hi : Nat) (S : PSt) (part port x : Int) (w : World) (h : PortsIs w pb lo hi S) :
  Calls Tryz.prog 117 #[.pointer (some ⟨pb, 0, none⟩), .int .i64 part, .int .i64 port, .int .i64 x] w fun e w' => e = .returned (.tuple #[.bool (wDrop S part port x), .int .i64 (wErr S part port x)]) /\ PortsIs w' pb lo hi (wSt S part port x) /\ Keeps (Between lo hi) w w' := by
 obtain ⟨Ls, h, rfl⟩ := h
 obtain ⟨la, lc, hcell, hline⟩ := h.line
 have y0 := BlockIs.of hcell 0 _ rfl
 have HP := Lib.hid h
 go_enter Tryz.func117, Tryz.ntmps117
 go_wp2_with fail
 refine (there_any pb la Ls.length lc port w y0).mono ?_
 rintro e w1 ⟨rfl, rfl⟩
 by_cases h1 : 0 <= port /\ port < (Ls.length : Int)
 ·rw [decide_eq_true h1]
  go_wp2_with fail
  refine (wordMay_any x _).mono ?_
  rintro e w2 ⟨rfl, rfl⟩
  by_cases h2 : 0 <= x /\ x < 4294967296
  ·rw [decide_eq_true h2]
   obtain ⟨i, rfl⟩ := Int.eq_ofNat_of_zero_le h1.1
   have hi' : i < Ls.length := by omega
   obtain ⟨lb, rfl, hc⟩ := hline i hi'
   have z0 := hc 0 _ rfl
   have z1 := hc 1 _ rfl
   have z2 := hc 2 _ rfl
   have z3 := hc 3 _ rfl
   have z4 := hc 4 _ rfl
   clear hc hline hcell h
   have hget : (Ls.map Ln.st).getD i p0 = (Ls[i].p, Ls[i].q) := by rw [List.getD_eq_getElem?_getD, List.getElem?_map, List.getElem?_eq_getElem hi']; rfl
   have HCA := Lib.hid (HP.out.cars _ (List.getElem_mem hi'))
   have HBK := Lib.hid (HP.out.blks _ (List.getElem_mem hi'))
   by_cases h3 : Ls[i].p.from_ = part
   ·have h3' : (Ls[i].p.from_ != part) = false := by simpa using h3
    have hE : wErr (Ls.map Ln.st) part (i : Int) x = 0 := by unfold wErr; rw [if_neg (by rw [List.length_map]; omega), Int.toNat_natCast, hget, if_neg (by simpa using h3)]
    have HE := Lib.hid hE
    have hS : ∀ q', q' = putP (Ls[i].p, Ls[i].q) x -> (Ls.set i ⟨Ls[i].p, Ls[i].c, q'⟩).map Ln.st = wSt (Ls.map Ln.st) part (i : Int) x := by
     intro q' hq'
     unfold wSt
     rw [if_pos hE, Int.toNat_natCast, hget, List.map_set, hq']
     rfl
    have hD : wDrop (Ls.map Ln.st) part (i : Int) x = dropP (Ls[i].p, Ls[i].q) := by unfold wDrop; rw [hE, Int.toNat_natCast, hget]; rfl
    have HS := Lib.hid (And.intro hS hD)
    clear h3 hE hS hD hget h2
    rcases HP.out.kind _ (List.getElem_mem hi') with ⟨hk, g, hcar⟩ | ⟨hk, qb, rb, hcar⟩
    ·have HK := Lib.hid (And.intro hk hcar)
     have hca := HCA.out
     rw [hcar] at z4 hca
     unfold Car.val at z4
     have m1 := meth_sput
     clear hk hcar
     go_wp2_with fail
     refine (smpPut_any g Ls[i].q x _ hca).mono ?_
     rintro e w3 ⟨rfl, hs, hg⟩
     have hcn : CarAt w3 Ls[i].c Ls[i].k [x] := by rw [HK.out.2]; exact hs
     have hgn : World.grownBy w2 w3 (some Ls[i].c.blk) := by rw [HK.out.2]; exact hg
     have HN := Lib.hid (HP.out.set hi' hcn hgn)
     have HKP := Lib.hid (Keeps.of_grown (F := Between lo hi) hgn (fun k e => by injection e with e; rw [<- e]; exact HBK.out _ (by cases Ls[i].c <;> simp [Car.all, Car.blk])))
     have HSE := Lib.hid (HS.out.1 [x] (by unfold putP; rw [if_pos HK.out.1]))
     clear hs hg hca hcn hgn
     go_wp2_with fail
     go_ret2
     exact ⟨by rw [HS.out.2, HE.out]; unfold dropP; rw [if_pos HK.out.1]; rfl, ⟨_, HN.out, HSE.out.symm⟩, HKP.out⟩
    ·have HK := Lib.hid (And.intro hk hcar)
     have hca := HCA.out
     rw [hcar] at z4 hca
     unfold Car.val at z4
     have m1 := meth_qput
     clear hk hcar
     go_wp2_with fail
     refine (quePut_any qb rb Ls[i].k Ls[i].q x _ hca.1 hca.2).mono ?_
     rintro e w3 ⟨rfl, hs, hg⟩
     obtain ⟨dd, hdd⟩ : ∃ dd, dd = decide (Ls[i].q.length = Ls[i].k) := ⟨_, rfl⟩
     rw [<- hdd]
     have HDD := Lib.hid hdd
     clear hdd
     have hcn : CarAt w3 Ls[i].c Ls[i].k (pushQ Ls[i].k Ls[i].q x) := by rw [HK.out.2]; exact ⟨typed_apart hca.1 hg (fun g e => by injection e with e; rw [<- e]; obtain ⟨cs, f, hr⟩ := hca.2; exact ⟨_, hr.blk⟩) (by decide), hs⟩
     have hgn : World.grownBy w2 w3 (some Ls[i].c.blk) := by rw [HK.out.2]; exact hg
     have HN := Lib.hid (HP.out.set hi' hcn hgn)
     have HKP := Lib.hid (Keeps.of_grown (F := Between lo hi) hgn (fun k e => by injection e with e; rw [<- e]; exact HBK.out _ (by cases Ls[i].c <;> simp [Car.all, Car.blk])))
     have HSE := Lib.hid (HS.out.1 (pushQ Ls[i].k Ls[i].q x) (by unfold putP; rw [if_neg (by rw [HK.out.1]; decide)]; rfl))
     clear hs hg hca hcn hgn
     go_wp2_with fail
     go_ret2
     exact ⟨by rw [HS.out.2, HE.out]; unfold dropP; rw [if_neg (by rw [HK.out.1]; decide), show (Ls[i].p, Ls[i].q).1.size.toNat = Ls[i].k from rfl]; first | rfl | (rw [<- HDD.out]; rfl), ⟨_, HN.out, HSE.out.symm⟩, HKP.out⟩
   ·have h3' : (Ls[i].p.from_ != part) = true := by simpa using h3
    have HE := Lib.hid (show wErr (Ls.map Ln.st) part (i : Int) x = 1701 by unfold wErr; rw [if_neg (by rw [List.length_map]; omega), Int.toNat_natCast, hget, if_pos (by simpa using h3)])
    go_wp2_with fail
    go_ret2
    have hne : ¬ wErr (Ls.map Ln.st) part (i : Int) x = 0 := by rw [HE.out]; decide
    exact ⟨by rw [show wDrop (Ls.map Ln.st) part (i : Int) x = false by unfold wDrop; rw [decide_eq_false hne]; rfl, HE.out]; rfl, ⟨Ls, HP.out, by unfold wSt; rw [if_neg hne]⟩, Keeps.refl _ _⟩
  ·rw [decide_eq_false h2]
   have HE := Lib.hid (show wErr (Ls.map Ln.st) part port x = 1700 by unfold wErr; rw [if_pos (by omega)])
   go_wp2_with fail
   go_ret2
   have hne : ¬ wErr (Ls.map Ln.st) part port x = 0 := by rw [HE.out]; decide
   exact ⟨by rw [show wDrop (Ls.map Ln.st) part port x = false by unfold wDrop; rw [decide_eq_false hne]; rfl, HE.out]; rfl, ⟨Ls, HP.out, by unfold wSt; rw [if_neg hne]⟩, Keeps.refl _ _⟩
 ·rw [decide_eq_false h1]
  have HE := Lib.hid (show wErr (Ls.map Ln.st) part port x = 1700 by unfold wErr; rw [if_pos (by rw [List.length_map]; omega)])
  go_wp2_with fail
  go_ret2
  have hne : ¬ wErr (Ls.map Ln.st) part port x = 0 := by rw [HE.out]; decide
  exact ⟨by rw [show wDrop (Ls.map Ln.st) part port x = false by unfold wDrop; rw [decide_eq_false hne]; rfl, HE.out]; rfl, ⟨Ls, HP.out, by unfold wSt; rw [if_neg hne]⟩, Keeps.refl _ _⟩
set_option maxRecDepth 100000 in
set_option maxHeartbeats 8000000 in
theorem ports_take (pb lo hi : Nat) (S : PSt) (part port : Int) (w : World) (h : PortsIs w pb lo hi S) :
  Calls Tryz.prog 116 #[.pointer (some ⟨pb, 0, none⟩), .int .i64 part, .int .i64 port] w fun e w' => e = .returned (.tuple #[.int .i64 (tVal S part port), .bool (tIs S part port), .int .i64 (tErr S part port)]) /\ PortsIs w' pb lo hi (tSt S part port) /\ Keeps (Between lo hi) w w' := by
 obtain ⟨Ls, h, rfl⟩ := h
 obtain ⟨la, lc, hcell, hline⟩ := h.line
 have y0 := BlockIs.of hcell 0 _ rfl
 have HP := Lib.hid h
 go_enter Tryz.func116, Tryz.ntmps116
 go_wp2_with fail
 refine (there_any pb la Ls.length lc port w y0).mono ?_
 rintro e w1 ⟨rfl, rfl⟩
 by_cases h1 : 0 <= port /\ port < (Ls.length : Int)
 ·rw [decide_eq_true h1]
  obtain ⟨i, rfl⟩ := Int.eq_ofNat_of_zero_le h1.1
  have hi' : i < Ls.length := by omega
  obtain ⟨lb, rfl, hc⟩ := hline i hi'
  have z0 := hc 0 _ rfl
  have z1 := hc 1 _ rfl
  have z2 := hc 2 _ rfl
  have z3 := hc 3 _ rfl
  have z4 := hc 4 _ rfl
  clear hc hline hcell h
  have hget : (Ls.map Ln.st).getD i p0 = (Ls[i].p, Ls[i].q) := by rw [List.getD_eq_getElem?_getD, List.getElem?_map, List.getElem?_eq_getElem hi']; rfl
  have HCA := Lib.hid (HP.out.cars _ (List.getElem_mem hi'))
  have HBK := Lib.hid (HP.out.blks _ (List.getElem_mem hi'))
  by_cases h3 : Ls[i].p.to_ = part
  ·have h3' : (Ls[i].p.to_ != part) = false := by simpa using h3
   have hE : tErr (Ls.map Ln.st) part (i : Int) = 0 := by unfold tErr; rw [if_neg (by rw [List.length_map]; omega), Int.toNat_natCast, hget, if_neg (by simpa using h3)]
   have HE := Lib.hid hE
   have hS : ∀ q', q' = takeP (Ls[i].p, Ls[i].q) -> (Ls.set i ⟨Ls[i].p, Ls[i].c, q'⟩).map Ln.st = tSt (Ls.map Ln.st) part (i : Int) := by
    intro q' hq'
    unfold tSt
    rw [if_pos hE, Int.toNat_natCast, hget, List.map_set, hq']
    rfl
   have hD : tVal (Ls.map Ln.st) part (i : Int) = Ls[i].q.headD 0 /\ tIs (Ls.map Ln.st) part (i : Int) = !Ls[i].q.isEmpty := by
    constructor
    ·unfold tVal; rw [if_pos hE, Int.toNat_natCast, hget]
    ·unfold tIs; rw [hE, Int.toNat_natCast, hget]; rfl
   have HS := Lib.hid (And.intro hS hD)
   clear h3 hE hS hD hget
   rcases HP.out.kind _ (List.getElem_mem hi') with ⟨hk, g, hcar⟩ | ⟨hk, qb, rb, hcar⟩
   ·have HK := Lib.hid (And.intro hk hcar)
    have hca := HCA.out
    rw [hcar] at z4 hca
    unfold Car.val at z4
    have m1 := meth_sread
    clear hk hcar
    go_wp2_with fail
    refine (smpRead_any g Ls[i].q _ hca).mono ?_
    rintro e w3 ⟨rfl, mm, rfl⟩
    have hs : SmpAt (w1.drewN mm) g Ls[i].q := ⟨hca.1, hca.2⟩
    have hg := grown_drewN w1 mm (some g)
    obtain ⟨dd, hdd⟩ : ∃ dd, dd = !Ls[i].q.isEmpty := ⟨_, rfl⟩
    obtain ⟨hh, hhh⟩ : ∃ hh, hh = Ls[i].q.headD 0 := ⟨_, rfl⟩
    rw [<- hdd, <- hhh]
    have HDD := Lib.hid (And.intro hhh hdd)
    clear hdd hhh
    have hcn : CarAt (w1.drewN mm) Ls[i].c Ls[i].k Ls[i].q := by rw [HK.out.2]; exact hs
    have hgn : World.grownBy w1 (w1.drewN mm) (some Ls[i].c.blk) := by rw [HK.out.2]; exact hg
    have HN := Lib.hid (HP.out.set hi' hcn hgn)
    have HKP := Lib.hid (Keeps.of_grown (F := Between lo hi) hgn (fun k e => by injection e with e; rw [<- e]; exact HBK.out _ (by cases Ls[i].c <;> simp [Car.all, Car.blk])))
    have HSE := Lib.hid (HS.out.1 Ls[i].q (by unfold takeP; rw [if_pos HK.out.1]))
    clear hs hg hca hcn hgn
    go_wp2_with fail
    refine bodyPost_ret (results_tmp3 rfl _ _ _) rfl ?_
    exact ⟨by rw [HS.out.2.1, HS.out.2.2, HE.out, <- HDD.out.1, <- HDD.out.2]; rfl, ⟨_, HN.out, HSE.out.symm⟩, HKP.out⟩
   ·have HK := Lib.hid (And.intro hk hcar)
    have hca := HCA.out
    rw [hcar] at z4 hca
    unfold Car.val at z4
    have m1 := meth_qread
    clear hk hcar
    go_wp2_with fail
    refine (queRead_any qb rb Ls[i].k Ls[i].q _ hca.1 hca.2).mono ?_
    rintro e w3 ⟨rfl, hs, hg⟩
    obtain ⟨dd, hdd⟩ : ∃ dd, dd = !Ls[i].q.isEmpty := ⟨_, rfl⟩
    obtain ⟨hh, hhh⟩ : ∃ hh, hh = Ls[i].q.headD 0 := ⟨_, rfl⟩
    rw [<- hdd, <- hhh]
    have HDD := Lib.hid (And.intro hhh hdd)
    clear hdd hhh
    have hcn : CarAt w3 Ls[i].c Ls[i].k Ls[i].q.tail := by rw [HK.out.2]; exact ⟨typed_apart hca.1 hg (fun g e => by injection e with e; rw [<- e]; obtain ⟨cs, f, hr⟩ := hca.2; exact ⟨_, hr.blk⟩) (by decide), hs⟩
    have hgn : World.grownBy w1 w3 (some Ls[i].c.blk) := by rw [HK.out.2]; exact hg
    have HN := Lib.hid (HP.out.set hi' hcn hgn)
    have HKP := Lib.hid (Keeps.of_grown (F := Between lo hi) hgn (fun k e => by injection e with e; rw [<- e]; exact HBK.out _ (by cases Ls[i].c <;> simp [Car.all, Car.blk])))
    have HSE := Lib.hid (HS.out.1 Ls[i].q.tail (by unfold takeP; rw [if_neg (by rw [HK.out.1]; decide)]))
    clear hs hg hca hcn hgn
    go_wp2_with fail
    refine bodyPost_ret (results_tmp3 rfl _ _ _) rfl ?_
    exact ⟨by rw [HS.out.2.1, HS.out.2.2, HE.out, <- HDD.out.1, <- HDD.out.2]; rfl, ⟨_, HN.out, HSE.out.symm⟩, HKP.out⟩
  ·have h3' : (Ls[i].p.to_ != part) = true := by simpa using h3
   have HE := Lib.hid (show tErr (Ls.map Ln.st) part (i : Int) = 1701 by unfold tErr; rw [if_neg (by rw [List.length_map]; omega), Int.toNat_natCast, hget, if_pos (by simpa using h3)])
   go_wp2_with fail
   refine bodyPost_ret (results_tmp3 rfl _ _ _) rfl ?_
   have hne : ¬ tErr (Ls.map Ln.st) part (i : Int) = 0 := by rw [HE.out]; decide
   exact ⟨by rw [show tVal (Ls.map Ln.st) part (i : Int) = 0 by unfold tVal; rw [if_neg hne], show tIs (Ls.map Ln.st) part (i : Int) = false by unfold tIs; rw [decide_eq_false hne]; rfl, HE.out]; rfl, ⟨Ls, HP.out, by unfold tSt; rw [if_neg hne]⟩, Keeps.refl _ _⟩
 ·rw [decide_eq_false h1]
  have HE := Lib.hid (show tErr (Ls.map Ln.st) part port = 1700 by unfold tErr; rw [if_pos (by rw [List.length_map]; omega)])
  go_wp2_with fail
  refine bodyPost_ret (results_tmp3 rfl _ _ _) rfl ?_
  have hne : ¬ tErr (Ls.map Ln.st) part port = 0 := by rw [HE.out]; decide
  exact ⟨by rw [show tVal (Ls.map Ln.st) part port = 0 by unfold tVal; rw [if_neg hne], show tIs (Ls.map Ln.st) part port = false by unfold tIs; rw [decide_eq_false hne]; rfl, HE.out]; rfl, ⟨Ls, HP.out, by unfold tSt; rw [if_neg hne]⟩, Keeps.refl _ _⟩
end Go.Proofs.YtooeeiiiflfckaaGreat
/- package ports: Gets, Outs. -/
namespace Go.Proofs.YtooeeiiiflfckaaGreat
open Go.RowKit
def getP (part : Int) (s : Port × List Int) : Int := if s.1.to_ = part then s.2.headD 0 else -1
def getsS (S : PSt) (part : Int) : List Int := S.map (getP part)
theorem gets_snoc (Ls : List Ln) (part : Int) (i : Nat) (h : i < Ls.length) : getsS ((Ls.map Ln.st).take (i + 1)) part = getsS ((Ls.map Ln.st).take i) part ++ [getP part (Ls[i].p, Ls[i].q)] := by
 unfold getsS
 rw [List.take_add_one, List.getElem?_map, List.getElem?_eq_getElem h]
 simp only [Option.map_some, Option.toList_some, List.map_append, List.map_cons, List.map_nil]
 rfl
theorem peek_any (c : Car) (k : Nat) (q : List Int) (w : World) (h : CarAt w c k q) : (∀ g, c = .smp g -> Calls Tryz.prog 178 #[.agg #[.pointer (some ⟨g, 0, none⟩)]] w fun e w' => e = .returned (.int .i64 (q.headD 0)) /\ Below w.heap.size w w') /\ (∀ qb rb, c = .que qb rb -> Calls Tryz.prog 182 #[.agg #[.pointer (some ⟨qb, 0, none⟩)]] w fun e w' => e = .returned (.int .i64 (q.headD 0)) /\ Below w.heap.size w w') :=
 ⟨fun g e => by subst e; exact smpPeek_any g q w h, fun qb rb e => by subst e; exact quePeek_any qb rb k q w h.1 h.2⟩
theorem car_iface {c : Car} {cv : Value} (h : cv = c.val) : ∃ t u, cv = .iface t u := by cases c <;> exact ⟨_, _, h⟩
set_option maxRecDepth 100000 in
set_option maxHeartbeats 8000000 in
theorem ports_gets (pb lo hi : Nat) (S : PSt) (part : Int) (w : World) (h : PortsIs w pb lo hi S) (hn : S.length <= 8) :
  Calls Tryz.prog 79 #[.pointer (some ⟨pb, 0, none⟩), .int .i64 part] w fun e w' => ∃ v, e = .returned v /\ IntRow w' w.heap.size v (getsS S part) /\ Below w.heap.size w w' := by
 obtain ⟨Ls, h, rfl⟩ := h
 rw [List.length_map] at hn
 obtain ⟨la, lc, hcell, hline⟩ := h.line
 have y0 := BlockIs.of hcell 0 _ rfl
 have HP := Lib.hid h
 have HL := Lib.hid hline
 clear h hline hcell
 go_enter Tryz.func79, Tryz.ntmps79
 go_wp2_with fail
 go_loopw [5, 15] (fun r a wr => ∃ i : Nat, i <= Ls.length /\ a = .int .i64 i /\ Hid (IntRow wr w.heap.size r (getsS ((Ls.map Ln.st).take i) part)) /\ Hid (Below w.heap.size w wr)) (fun _ a _ => Ls.length - (intOf a).toNat)
 case atStart => exact ⟨0, by omega, rfl, Lib.hid (World.ownsRow_nil _ _ _ _), Lib.hid (Below.refl _ _)⟩
 case round =>
  obtain ⟨i, hi', rfl, HR, HB⟩ := hrel
  by_cases hlt : i < Ls.length
  ·obtain ⟨lb, rfl, hc⟩ := HL.out i hlt
   have z0 := Ext.below HB.out _ _ (hc 0 _ rfl)
   have z1 := Ext.below HB.out _ _ (hc 1 _ rfl)
   have z2 := Ext.below HB.out _ _ (hc 2 _ rfl)
   have z3 := Ext.below HB.out _ _ (hc 3 _ rfl)
   have z4 := Ext.below HB.out _ _ (hc 4 _ rfl)
   simp only [Nat.add_zero] at z0
   obtain ⟨cv, hcv⟩ : ∃ cv, cv = Ls[i].c.val := ⟨_, rfl⟩
   rw [<- hcv] at z4
   obtain ⟨ct, cu, rfl⟩ := car_iface hcv
   have HCV := Lib.hid hcv
   have HSN := Lib.hid (gets_snoc Ls part i hlt)
   have hgl : (getsS ((Ls.map Ln.st).take i) part).length <= 8 := by unfold getsS; rw [List.length_map, List.length_take, List.length_map]; omega
   have HCA := Lib.hid (HP.out.cars _ (List.getElem_mem hlt))
   have HKD := Lib.hid (HP.out.kind _ (List.getElem_mem hlt))
   clear hc hcv
   obtain ⟨w3, bx, hw_w3, hg_bx, hb_w3, hk_bx, hs_w3⟩ := alloc_all wr (.cells #[.int .i64 Ls[i].p.kind, .int .i64 Ls[i].p.from_, .int .i64 Ls[i].p.to_, .int .i64 Ls[i].p.size, .iface ct cu] 159)
   have HX := Lib.hid hk_bx
   have HB3 := Lib.hid (bthen HB.out hb_w3)
   have HR3 := Lib.hid (show IntRow w3 w.heap.size u5 _ from Below.kept HR.out hb_w3)
   have HB3x := Lib.hid hb_w3
   clear hk_bx hb_w3 hs_w3
   go_upto_region 7 with (fail)
   rw [<- hw_w3, <- hg_bx]
   clear hw_w3 hg_bx z0 z1 z2 z3 z4
   have x2 := BlockIs.of HX.out 2 _ rfl
   have x4 := BlockIs.of HX.out 4 _ rfl
   by_cases hto : Ls[i].p.to_ = part
   ·have hto' : (Ls[i].p.to_ == part) = true := by simpa using hto
    have HG := Lib.hid (show getP part (Ls[i].p, Ls[i].q) = Ls[i].q.headD 0 by unfold getP; rw [if_pos hto])
    clear hto
    rcases HKD.out with ⟨hk, g, hcar⟩ | ⟨hk, qb, rb, hcar⟩
    ·rw [HCV.out, hcar] at x4
     unfold Car.val at x4
     have HPK := Lib.hid (fun W2 (hW2 : CarAt W2 Ls[i].c Ls[i].k Ls[i].q) => (peek_any Ls[i].c Ls[i].k Ls[i].q W2 hW2).1 g hcar)
     have m1 := meth_speek
     clear hk hcar
     go_wp2_with fail
     refine (HPK.out _ (HCA.out.keep (bthen HB.out HB3x.out))).mono ?_
     rintro e w4 ⟨rfl, hb4⟩
     have HB4 := Lib.hid (bthen HB3.out hb4)
     have HR4 := Lib.hid (show IntRow w4 w.heap.size u5 _ from Below.kept HR3.out hb4)
     obtain ⟨y, hy⟩ : ∃ y, y = Ls[i].q.headD 0 := ⟨_, rfl⟩
     rw [<- hy] at HG |-
     clear hb4 hy
     go_wp2_with (at_builtin; refine append_elem rfl (.tmp 24) (.tmp 28) 75 rfl w.heap.size 3 _ 1 8 Tryz.underlying75 infoInt rfl (by decide) u5 _ _ rfl HR4.out (intCell y) _ rfl rfl rfl rfl (by omega) (by omega) HB4.out.size ?_)
     intro v2 w5 hown hbel hg
     have HN := Lib.hid (show IntRow w5 w.heap.size v2 (getsS ((Ls.map Ln.st).take (i + 1)) part) by rw [HSN.out, HG.out]; exact IntRow.snoc rfl hown)
     have HB5 := Lib.hid (HB4.out.trans hbel)
     obtain ⟨va, vc, rfl⟩ := own_shape hown
     clear hown hbel hg
     go_wp2_with fail
     go_roundw
     case rel => exact ⟨i + 1, by omega, by go_num, HN, HB5⟩
     case measure => simp [intOf]; omega
    ·rw [HCV.out, hcar] at x4
     unfold Car.val at x4
     have HPK := Lib.hid (fun W2 (hW2 : CarAt W2 Ls[i].c Ls[i].k Ls[i].q) => (peek_any Ls[i].c Ls[i].k Ls[i].q W2 hW2).2 qb rb hcar)
     have m1 := meth_qpeek
     clear hk hcar
     go_wp2_with fail
     refine (HPK.out _ (HCA.out.keep (bthen HB.out HB3x.out))).mono ?_
     rintro e w4 ⟨rfl, hb4⟩
     have HB4 := Lib.hid (bthen HB3.out hb4)
     have HR4 := Lib.hid (show IntRow w4 w.heap.size u5 _ from Below.kept HR3.out hb4)
     obtain ⟨y, hy⟩ : ∃ y, y = Ls[i].q.headD 0 := ⟨_, rfl⟩
     rw [<- hy] at HG |-
     clear hb4 hy
     go_wp2_with (at_builtin; refine append_elem rfl (.tmp 24) (.tmp 28) 75 rfl w.heap.size 3 _ 1 8 Tryz.underlying75 infoInt rfl (by decide) u5 _ _ rfl HR4.out (intCell y) _ rfl rfl rfl rfl (by omega) (by omega) HB4.out.size ?_)
     intro v2 w5 hown hbel hg
     have HN := Lib.hid (show IntRow w5 w.heap.size v2 (getsS ((Ls.map Ln.st).take (i + 1)) part) by rw [HSN.out, HG.out]; exact IntRow.snoc rfl hown)
     have HB5 := Lib.hid (HB4.out.trans hbel)
     obtain ⟨va, vc, rfl⟩ := own_shape hown
     clear hown hbel hg
     go_wp2_with fail
     go_roundw
     case rel => exact ⟨i + 1, by omega, by go_num, HN, HB5⟩
     case measure => simp [intOf]; omega
   ·have hto' : (Ls[i].p.to_ == part) = false := by simpa using hto
    have HG := Lib.hid (show getP part (Ls[i].p, Ls[i].q) = -1 by unfold getP; rw [if_neg hto])
    clear hto
    go_wp2_with (at_builtin; refine append_elem rfl (.tmp 30) (.tmp 31) 75 rfl w.heap.size 3 _ 1 8 Tryz.underlying75 infoInt rfl (by decide) u5 _ _ rfl HR3.out (intCell (-1)) _ rfl rfl rfl rfl (by omega) (by omega) HB3.out.size ?_)
    intro v2 w4 hown hbel hg
    have HN := Lib.hid (show IntRow w4 w.heap.size v2 (getsS ((Ls.map Ln.st).take (i + 1)) part) by rw [HSN.out, HG.out]; exact IntRow.snoc rfl hown)
    have HB4 := Lib.hid (HB3.out.trans hbel)
    obtain ⟨va, vc, rfl⟩ := own_shape hown
    clear hown hbel hg
    go_wp2_with fail
    go_roundw
    case rel => exact ⟨i + 1, by omega, by go_num, HN, HB4⟩
    case measure => simp [intOf]; omega
  ·obtain rfl : i = Ls.length := by omega
   rw [show (Ls.map Ln.st).take Ls.length = Ls.map Ln.st by rw [<- List.length_map (f := Ln.st)]; exact List.take_length] at HR
   obtain ⟨va, vc, rfl⟩ := own_shape HR.out
   go_wp2_with fail
   go_ret
   exact ⟨_, rfl, HR.out, HB.out⟩
def outTo (S : PSt) (part : Int) : Nat -> Int
 | 0 => 0
 | k + 1 => if (S.getD k p0).1.from_ = part then bits .or .i64 (outTo S part k) (wrap64 (2 ^ k)) else outTo S part k
def outsS (S : PSt) (part : Int) : Int := outTo S part S.length
set_option maxRecDepth 100000 in
set_option maxHeartbeats 8000000 in
theorem ports_outs (pb lo hi : Nat) (S : PSt) (part : Int) (w : World) (h : PortsIs w pb lo hi S) (hn : S.length <= 8) :
  Calls Tryz.prog 78 #[.pointer (some ⟨pb, 0, none⟩), .int .i64 part] w fun e w' => e = .returned (.int .i64 (outsS S part)) /\ Below w.heap.size w w' := by
 obtain ⟨Ls, h, rfl⟩ := h
 rw [List.length_map] at hn
 obtain ⟨la, lc, hcell, hline⟩ := h.line
 have y0 := BlockIs.of hcell 0 _ rfl
 have HL := Lib.hid hline
 clear h hline hcell
 go_enter Tryz.func78, Tryz.ntmps78
 go_wp2_with fail
 go_loopw [5, 15] (fun r a wr => ∃ i : Nat, i <= Ls.length /\ a = .int .i64 i /\ (∃ o : Int, r = .int .i64 o /\ Hid (o = outTo (Ls.map Ln.st) part i)) /\ Hid (Below w.heap.size w wr)) (fun _ a _ => Ls.length - (intOf a).toNat)
 case atStart => exact ⟨0, by omega, rfl, ⟨0, rfl, Lib.hid rfl⟩, Lib.hid (Below.refl _ _)⟩
 case round =>
  obtain ⟨i, hi', rfl, ⟨o, rfl, HO⟩, HB⟩ := hrel
  by_cases hlt : i < Ls.length
  ·obtain ⟨lb, rfl, hc⟩ := HL.out i hlt
   have z0 := Ext.below HB.out _ _ (hc 0 _ rfl)
   have z1 := Ext.below HB.out _ _ (hc 1 _ rfl)
   have z2 := Ext.below HB.out _ _ (hc 2 _ rfl)
   have z3 := Ext.below HB.out _ _ (hc 3 _ rfl)
   have z4 := Ext.below HB.out _ _ (hc 4 _ rfl)
   simp only [Nat.add_zero] at z0
   obtain ⟨cv, hcv⟩ : ∃ cv, cv = Ls[i].c.val := ⟨_, rfl⟩
   rw [<- hcv] at z4
   obtain ⟨ct, cu, rfl⟩ := car_iface hcv
   have hget : (Ls.map Ln.st).getD i p0 = (Ls[i].p, Ls[i].q) := by rw [List.getD_eq_getElem?_getD, List.getElem?_map, List.getElem?_eq_getElem hlt]; rfl
   have hb := balloc wr (.cells #[.int .i64 Ls[i].p.kind, .int .i64 Ls[i].p.from_, .int .i64 Ls[i].p.to_, .int .i64 Ls[i].p.size, .iface ct cu] 159)
   have HB2 := Lib.hid (bthen HB.out hb)
   clear hc hcv hb
   by_cases hto : Ls[i].p.from_ = part
   ·have hto' : (Ls[i].p.from_ == part) = true := by simpa using hto
    have HN := Lib.hid (show bits BinOp.or IntKind.i64 o (wrap64 (2 ^ i)) = outTo (Ls.map Ln.st) part (i + 1) by unfold outTo; rw [hget, if_pos hto, HO.out])
    clear hto hget
    go_wp2_with fail
    go_roundw
    case rel => exact ⟨i + 1, by omega, by go_num, ⟨_, rfl, HN⟩, HB2⟩
    case measure => simp [intOf]; omega
   ·have hto' : (Ls[i].p.from_ == part) = false := by simpa using hto
    have HN := Lib.hid (show o = outTo (Ls.map Ln.st) part (i + 1) by unfold outTo; rw [hget, if_neg hto, HO.out])
    clear hto hget
    go_wp2_with fail
    go_roundw
    case rel => exact ⟨i + 1, by omega, by go_num, ⟨_, rfl, HN⟩, HB2⟩
    case measure => simp [intOf]; omega
  ·obtain rfl : i = Ls.length := by omega
   go_wp2_with fail
   go_ret
   exact ⟨by rw [show outsS (Ls.map Ln.st) part = o by unfold outsS; rw [List.length_map, HO.out]]; rfl, HB.out⟩
end Go.Proofs.YtooeeiiiflfckaaGreat
