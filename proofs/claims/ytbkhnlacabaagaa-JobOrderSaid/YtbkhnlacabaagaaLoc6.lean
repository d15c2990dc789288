/- package jobs: New (printed by genloc6.py). -/
import Derived.Test.YtbkhnlacabaagaaLocA
import Derived.Test.YtbkhnlacabaagaaChkA
import Derived.Test.YtbkhnlacabaagaaLibA
set_option linter.unusedVariables false
set_option linter.unusedSimpArgs false
namespace Go.Proofs.Ytbkhnlacabaagaa
open Go.RowKit

theorem infoRunP : (Try.prog.info? 88).map (fun i => (i.zero, i.size, i.bytes)) = some (some (.pointer none), 1, 8) := by kernel_rfl
def newL (idx : Int) (p : Part) : LSt := ⟨idx, p.level, p.tasks.map (fun t => ⟨t, ⟨-1, []⟩, 0⟩), []⟩
def alone (p : Part) : Config := ⟨1, 1, [p], [], []⟩
def newBad (idx : Int) (p : Part) : Bool := decide (idx < 0 ∨ 8 ≤ idx ∨ checkCfg (alone p) ≠ 0)
theorem check_parts {c : Config} (h : checkCfg c = 0) : (1 ≤ c.frame ∧ c.frame ≤ 256 ∧ 1 ≤ c.quiet ∧ c.quiet ≤ 16) ∧ (1 ≤ c.parts.length ∧ c.parts.length ≤ 8) ∧ (∀ p ∈ c.parts, levelMay p = true ∧ tasksMay p = true ∧ codeMay p.code = true) ∧ windowsMay c = true ∧ c.ports.length ≤ 8 ∧ ∀ x ∈ c.ports, portMay c.parts x = true := by
  unfold checkCfg at h
  by_cases h1 : c.frame < 1 ∨ c.frame > 256 ∨ c.quiet < 1 ∨ c.quiet > 16
  · rw [if_pos h1] at h; simp at h
  rw [if_neg h1] at h
  by_cases h2 : c.parts.length < 1 ∨ c.parts.length > 8 ∨ c.parts.any (fun p => !levelMay p) = true
  · rw [if_pos h2] at h; simp at h
  rw [if_neg h2] at h
  by_cases h3 : c.parts.any (fun p => !tasksMay p) = true
  · rw [if_pos h3] at h; simp at h
  rw [if_neg h3] at h
  by_cases h4 : windowsMay c = false
  · rw [if_pos h4] at h; simp at h
  rw [if_neg h4] at h
  by_cases h5 : c.ports.length > 8 ∨ c.ports.any (fun p => !portMay c.parts p) = true
  · rw [if_pos h5] at h; simp at h
  rw [if_neg h5] at h
  by_cases h6 : c.parts.any (fun p => !codeMay p.code) = true
  · rw [if_pos h6] at h; simp at h
  simp only [not_or, Bool.not_eq_true, List.any_eq_false, Bool.not_eq_true', Bool.not_eq_false] at h2 h3 h5 h6
  refine ⟨by omega, by omega, fun p hp => ⟨h2.2.2 p hp, h3 p hp, h6 p hp⟩, by simpa using h4, by omega, fun x hx => h5.2 x hx⟩
theorem tasksFrom_may {l : Int} {ts : List Task} : ∀ {k : Nat} {r : List Task}, tasksFrom l ts k r = true → ∀ t ∈ r, taskMay t = true ∧ (l = 0 → t.chigh = t.clow) := by
  intro k r
  induction r generalizing k with
  | nil => intro _ t ht; cases ht
  | cons x r ih =>
    intro h t ht
    unfold tasksFrom at h
    simp only [Bool.and_eq_true, Bool.not_eq_true', Bool.and_eq_false_iff, decide_eq_false_iff_not] at h
    rcases List.mem_cons.1 ht with rfl | ht
    · refine ⟨h.1.1.1, fun hl => ?_⟩
      rcases h.1.1.2 with h | h
      · exact absurd hl h
      · simpa using h
    · exact ih h.2 t ht
theorem tasksMay_iff {p : Part} (h : tasksMay p = true) : p.tasks.length ≤ 6 ∧ ∀ t ∈ p.tasks, taskMay t = true ∧ (p.level = 0 → t.chigh = t.clow) := by
  unfold tasksMay at h
  simp only [Bool.and_eq_true, decide_eq_true_eq] at h
  exact ⟨h.1, tasksFrom_may h.2⟩
theorem newL_wf {idx : Int} {p : Part} (h : newBad idx p = false) : LWf (newL idx p) 0 := by
  unfold newBad at h
  simp only [decide_eq_false_iff_not, not_or, Int.not_lt, Int.not_le, ne_eq, Decidable.not_not] at h
  have hp := (check_parts h.2.2).2.2.1 p (by simp [alone])
  have ht := tasksMay_iff hp.2.1
  have hl := hp.1
  unfold levelMay at hl
  simp only [decide_eq_true_eq] at hl
  refine ⟨by unfold newL; simp only; omega, hl, fun r hr => ?_, by simpa [newL] using ht.1, by unfold newL jobsMay; simp, fun j hj => by unfold newL at hj; cases hj⟩
  unfold newL at hr
  simp only [List.mem_map] at hr
  obtain ⟨t, htm, rfl⟩ := hr
  refine ⟨?_, by simp, by simp⟩
  unfold pairMay
  simp [(ht.2 t htm).1]
/-- What holds while New's region runs that makes a task's state: the row, its new element's block. -/
structure NewT (w wr : World) (b : Nat) (r : Value) (n : Nat) (xs : List Value) (rc : Array Value) (idx lvl : Int) (jv : Value) (PV : Nat → Value → Prop) (L : Nat → Bool) (vs : Nat → Value) (W : World) : Prop where
  pv : ∀ i, L i = true → PV i (vs i)
  below : Below w.heap.size w W
  keep : ∀ k t, Typed wr k t → t ≠ 88 → k ≠ b → W.heap[k]? = wr.heap[k]?
  size : wr.heap.size ≤ W.heap.size
  row0 : L 10 = false → W.ownsRow w.heap.size 88 1 r n xs
  box : L 8 = true → ∃ g, vs 8 = .pointer (some ⟨g, 0, none⟩) ∧ wr.heap.size ≤ g ∧ W.heap[g]? = some (.cells rc 92 (0, 0))
  sl : L 9 = true → L 10 = false → ∃ g, vs 9 = .slice (some ⟨g, 0, none⟩) 1 1 ∧ W.heap[g]? = some (.cells #[vs 8] 88 (0, 0))
  row1 : L 10 = true → W.ownsRow w.heap.size 88 1 (vs 10) (n + 1) (xs ++ [vs 8])
  cell : W.heap[b]? = some (.cells #[.int .i64 idx, .int .i64 lvl, if L 13 = true then vs 10 else r, jv] 87 (0, 0))
def NtV (b : Nat) (ra : Option Addr) (k rcc : Nat) (t : Task) (a : Nat) (v : Value) : Prop := match a with
  | 0 => v = .pointer (some ⟨b, 0, none⟩)
  | 1 => v = .pointer (some ⟨b, 0, none⟩)
  | 2 => v = .pointer (some ⟨b, 0, none⟩)
  | 3 => v = .pointer (some ⟨b, 2, none⟩)
  | 4 => v = .slice ra k rcc
  | 5 => v = .agg #[.int .i64 t.kind, .int .i64 t.period, .int .i64 t.deadline, .int .i64 t.clow, .int .i64 t.chigh, .int .i64 t.prio]
  | 6 => v = .agg #[.int .i64 (-1), .slice none 0 0]
  | 7 => v = .agg #[.int .i64 t.kind, .int .i64 t.period, .int .i64 t.deadline, .int .i64 t.clow, .int .i64 t.chigh, .int .i64 t.prio, .int .i64 (-1), .slice none 0 0, .int .i64 0]
  | 11 => v = .pointer (some ⟨b, 0, none⟩)
  | 12 => v = .pointer (some ⟨b, 2, none⟩)
  | _ => True

/-- A task more. -/
theorem LocAt.addRun {W W' : World} {b lo : Nat} {ps : List Nat} {F : Nat → Prop} {S : LSt} (h : LocAt W b lo ps F S) {g : Nat} {tv' : Value} {r : TRun} {tv0 jv : Value} (hlo : lo ≤ W.heap.size) (hj : S.js = []) (hc0 : W.heap[b]? = some (.cells #[.int .i64 S.idx, .int .i64 S.lvl, tv0, jv] 87 (0, 0))) (hjv : JobsV W jv []) (hjs : SlIn W F jv 47)
    (hg1 : W.heap.size ≤ g) (hg2 : W'.heap[g]? = some (.cells (runCells r (.slice none 0 0)) 92 (0, 0))) (hp : r.s.picks = [])
    (hc : W'.heap[b]? = some (.cells #[.int .i64 S.idx, .int .i64 S.lvl, tv', jv] 87 (0, 0)))
    (hr : W'.ownsRow lo 88 1 tv' (ps.length + 1) (ps.map ptrV ++ [ptrV g]))
    (hk : ∀ k t, Typed W k t → t ≠ 88 → k ≠ b → W'.heap[k]? = W.heap[k]?) :
    LocAt W' b lo (ps ++ [g]) (fun k => (F k ∧ ¬ Typed W k 88) ∨ k = g ∨ tv'.ownBlock = some k) { S with rs := S.rs ++ [r] } := by
  have hpt : ∀ i (h1 : i < ps.length), Typed W ps[i] 92 := fun i h1 => by
    obtain ⟨pv, q, -⟩ := h.runs i h1 (by rw [← h.len]; exact h1)
    exact ⟨_, q⟩
  have hbn : ¬ Typed W b 88 := fun q => by
    obtain ⟨tv, jv, c1, -⟩ := h.cell
    exact typed_ne q ⟨_, c1⟩ (by decide) rfl
  refine ⟨.inl ⟨h.fb, hbn⟩, ?_, ?_, by simp [h.len], ?_, ?_, ⟨tv', jv, hc, ?_, ?_, ?_, ?_⟩, ?_⟩
  · rintro k (⟨hf, -⟩ | rfl | hf)
    · exact h.fl k hf
    · omega
    · exact (hr.lt k hf).1
  · rintro k (⟨hf, hnt⟩ | rfl | hf)
    · by_cases hkb : k = b
      · subst hkb; exact .inl ⟨_, hc⟩
      · rcases h.ty k hf with q | q | q | q | q
        · exact .inl (q.far (hk k _ q (by decide) hkb))
        · exact .inr (.inl (q.far (hk k _ q (by decide) hkb)))
        · exact absurd q hnt
        · exact .inr (.inr (.inr (.inl (q.far (hk k _ q (by decide) hkb)))))
        · exact .inr (.inr (.inr (.inr (q.far (hk k _ q (by decide) hkb)))))
    · exact .inr (.inl ⟨_, hg2⟩)
    · exact .inr (.inr (.inl (own_typed hr hf)))
  · intro p hp
    rcases List.mem_append.1 hp with hp | hp
    · obtain ⟨i, hi, rfl⟩ := List.getElem_of_mem hp
      exact .inl ⟨h.fp _ hp, fun q => typed_ne q (hpt i hi) (by decide) rfl⟩
    · simp only [List.mem_singleton] at hp
      exact .inr (.inl hp)
  · refine List.nodup_append.2 ⟨h.ne, by simp, fun a ha c hc => ?_⟩
    simp only [List.mem_singleton] at hc
    subst hc
    have := h.lt (h.fp a ha)
    omega
  · simpa using hr
  · exact (SlIn.own hr).mono (fun k hk => .inr (.inr hk))
  · rw [show ({ S with rs := S.rs ++ [r] } : LSt).js = [] from hj]
    obtain ⟨a, cap, e, q1, q2, q3, -⟩ := hjv
    exact ⟨a, cap, e, q1, q2, q3, fun h => absurd rfl h⟩
  · intro a n cap e
    have q := hjs a n cap e
    refine ⟨.inl ⟨q.1, fun q' => typed_ne q.2 q' (by decide) rfl⟩, q.2.far (hk _ _ q.2 (by decide) (fun e => ?_))⟩
    have q2 := q.2
    rw [e] at q2
    exact typed_ne q2 ⟨_, hc0⟩ (by decide) rfl
  · intro i h1 h2
    simp only [List.length_append, List.length_singleton] at h1 h2
    by_cases hi : i < ps.length
    · have hi' : i < S.rs.length := by rw [← h.len]; exact hi
      simp only [List.getElem_append_left hi, List.getElem_append_left hi']
      have hne : ps[i] ≠ b := fun e => by
        obtain ⟨tv, jv, c1, -⟩ := h.cell
        have := hpt i hi
        rw [e] at this
        exact typed_ne this ⟨_, c1⟩ (by decide) rfl
      have hki : ∀ k, Typed W k 3 → W'.heap[k]? = W.heap[k]? := fun k q => hk k _ q (by decide) (fun e => by
        obtain ⟨tv, jv, c1, -⟩ := h.cell
        rw [e] at q
        exact typed_ne q ⟨_, c1⟩ (by decide) rfl)
      obtain ⟨pv, q1, q2, q3⟩ := h.runs i hi hi'
      exact ⟨pv, (hk _ _ (hpt i hi) (by decide) hne).trans q1, IntsV.far q2 (fun a n cap e => hki _ (q3 a n cap e).2), fun a n cap e => ⟨.inl ⟨(q3 a n cap e).1, fun q => typed_ne (q3 a n cap e).2 q (by decide) rfl⟩, (q3 a n cap e).2.far (hki _ (q3 a n cap e).2)⟩⟩
    · have e1 : i = ps.length := by omega
      have e2 : i = S.rs.length := by rw [← h.len]; exact e1
      have q1 : (ps ++ [g])[i] = g := by simp [e1]
      have q2 : (S.rs ++ [r])[i]'(by simpa using h2) = r := by simp [e2]
      simp only [q1, q2]
      refine ⟨.slice none 0 0, hg2, by rw [hp]; exact slice0 _ _ _ _, fun a n cap e => by cases e⟩
set_option maxRecDepth 100000 in
set_option maxHeartbeats 4000000 in
theorem new_any (idx : Int) (p : Part) (tv cv : Value) (w : World) (hp : PartIs w tv cv p) :
    Calls Try.prog 11 #[.int .i64 idx, .agg #[.int .i64 p.level, tv, cv]] w fun e w' => (newBad idx p = true → e = .returned (.tuple #[.pointer none, .int .i64 1400])) ∧ (newBad idx p = false → ∃ b ps F, e = .returned (.tuple #[.pointer (some ⟨b, 0, none⟩), .int .i64 0]) ∧ LocAt w' b w.heap.size ps F (newL idx p)) ∧ Below w.heap.size w w' := by
  obtain ⟨ta, tc, htv⟩ : ∃ a c, tv = .slice a p.tasks.length c := by obtain ⟨a, c, e, -⟩ := hp.tasks; exact ⟨a, c, e⟩
  obtain ⟨n, hn⟩ : ∃ n, n = p.tasks.length := ⟨_, rfl⟩
  rw [← hn] at htv
  subst htv
  obtain ⟨lvl, hlv⟩ : ∃ lvl, lvl = p.level := ⟨_, rfl⟩
  have HP := Lib.hid hp
  have HLV := Lib.hid (And.intro hlv hn)
  rw [← hlv]
  obtain ⟨wa, hw_wa⟩ : ∃ wa, wa = w.alloc (.cells #[.int .i64 lvl, .slice ta n tc, cv] 25) := ⟨_, rfl⟩
  obtain ⟨ga, hg_ga⟩ : ∃ ga, ga = w.heap.size := ⟨_, rfl⟩
  have hb_wa : Below w.heap.size w wa := by rw [hw_wa]; exact balloc _ _
  have hk_ga : wa.heap[ga]? = some (.cells #[.int .i64 lvl, .slice ta n tc, cv] 25 (0, 0)) := by rw [hw_wa, hg_ga]; exact blk_new _ _
  have hs_wa : wa.heap.size = w.heap.size + 1 := by rw [hw_wa]; simp
  obtain ⟨wb, hw_wb⟩ : ∃ wb, wb = wa.alloc (.cells #[.int .i64 lvl, .slice ta n tc, cv] 25) := ⟨_, rfl⟩
  obtain ⟨gb, hg_gb⟩ : ∃ gb, gb = wa.heap.size := ⟨_, rfl⟩
  have hb_wb : Below wa.heap.size wa wb := by rw [hw_wb]; exact balloc _ _
  have hk_gb : wb.heap[gb]? = some (.cells #[.int .i64 lvl, .slice ta n tc, cv] 25 (0, 0)) := by rw [hw_wb, hg_gb]; exact blk_new _ _
  have hs_wb : wb.heap.size = wa.heap.size + 1 := by rw [hw_wb]; simp
  obtain ⟨wc, hw_wc⟩ : ∃ wc, wc = wb.alloc (.cells #[.int .i64 1, .int .i64 1, .slice (some ⟨gb, 0, none⟩) 1 1, .slice none 0 0, .slice none 0 0] 83) := ⟨_, rfl⟩
  obtain ⟨gc, hg_gc⟩ : ∃ gc, gc = wb.heap.size := ⟨_, rfl⟩
  have hb_wc : Below wb.heap.size wb wc := by rw [hw_wc]; exact balloc _ _
  have hk_gc : wc.heap[gc]? = some (.cells #[.int .i64 1, .int .i64 1, .slice (some ⟨gb, 0, none⟩) 1 1, .slice none 0 0, .slice none 0 0] 83 (0, 0)) := by rw [hw_wc, hg_gc]; exact blk_new _ _
  have hs_wc : wc.heap.size = wb.heap.size + 1 := by rw [hw_wc]; simp
  have HBC := Lib.hid (bthen hb_wa (bthen hb_wb hb_wc))
  have HCF := Lib.hid (show CfgV wc (.agg #[.int .i64 1, .int .i64 1, .slice (some ⟨gb, 0, none⟩) 1 1, .slice none 0 0, .slice none 0 0]) (alone p) from ⟨_, _, _, rfl, ⟨slice1 (by decide) ⟨by rw [← hlv]; exact Ext.below hb_wc _ _ (BlockIs.of hk_gb 0 _ rfl), _, _, Ext.below hb_wc _ _ (BlockIs.of hk_gb 1 _ rfl), Ext.below hb_wc _ _ (BlockIs.of hk_gb 2 _ rfl), hp.ext (Ext.below HBC.out)⟩, slice0 _ _ _ _, slice0 _ _ _ _⟩⟩)
  have HKA := Lib.hid (keep_at (keep_at hk_ga hb_wb) hb_wc)
  have a0 := BlockIs.of HKA.out 0 _ rfl
  have a1 := BlockIs.of HKA.out 1 _ rfl
  have a2 := BlockIs.of HKA.out 2 _ rfl
  have c0 := BlockIs.of hk_gc 0 _ rfl
  have c1 := BlockIs.of hk_gc 1 _ rfl
  have c2 := BlockIs.of hk_gc 2 _ rfl
  have c3 := BlockIs.of hk_gc 3 _ rfl
  have c4 := BlockIs.of hk_gc 4 _ rfl
  have e0 := BlockIs.of hk_ga 0 _ rfl
  have e1 := BlockIs.of hk_ga 1 _ rfl
  have e2 := BlockIs.of hk_ga 2 _ rfl
  subst hg_ga
  rw [hs_wa] at hg_gb hs_wb
  rw [hs_wb] at hg_gc
  subst hg_gb
  subst hg_gc
  clear hp hlv hn hb_wa hb_wb hb_wc hk_ga hk_gb hk_gc
  have BAD : newBad idx p = true → ∀ (e : Ending) (w' : World), e = .returned (.tuple #[.pointer none, .int .i64 1400]) → Below w.heap.size w w' → (newBad idx p = true → e = .returned (.tuple #[.pointer none, .int .i64 1400])) ∧ (newBad idx p = false → ∃ b ps F, e = .returned (.tuple #[.pointer (some ⟨b, 0, none⟩), .int .i64 0]) ∧ LocAt w' b w.heap.size ps F (newL idx p)) ∧ Below w.heap.size w w' := fun h e w' he hb => ⟨fun _ => he, fun h' => (by rw [h] at h'; cases h'), hb⟩
  have BAD := Lib.hid BAD
  by_cases d0 : idx < 0
  · have HN := Lib.hid (show newBad idx p = true by unfold newBad; rw [decide_eq_true_iff]; exact .inl d0)
    go_enter Try.func11, Try.ntmps11
    go_wp2_with (rw [← hw_wa, ← hw_wb, ← hw_wc]; clear hw_wa hw_wb hw_wc)
    go_ret2
    exact BAD.out HN.out _ _ rfl HBC.out
  · by_cases d1 : 8 ≤ idx
    · have HN := Lib.hid (show newBad idx p = true by unfold newBad; rw [decide_eq_true_iff]; exact .inr (.inl d1))
      go_enter Try.func11, Try.ntmps11
      go_wp2_with (rw [← hw_wa, ← hw_wb, ← hw_wc]; clear hw_wa hw_wb hw_wc)
      go_ret2
      have h1 := HBC.out
      exact ⟨fun _ => rfl, fun h => absurd (HN.out.symm.trans h) (by decide), h1⟩
    · go_enter Try.func11, Try.ntmps11
      go_wp2_with (rw [← hw_wa, ← hw_wb, ← hw_wc]; clear hw_wa hw_wb hw_wc)
      refine (check_any (alone p) _ wc HCF.out).mono ?_
      rintro e w1 ⟨rfl, hb1⟩
      have HB1 := Lib.hid (bthen HBC.out hb1)
      have HKA1 := Lib.hid (keep_at HKA.out hb1)
      have HP1 := Lib.hid (HP.out.ext (Ext.below HB1.out))
      clear a0 a1 a2 c0 c1 c2 c3 c4 e0 e1 e2 hb1 hs_wa hs_wb hs_wc
      obtain ⟨ce, hce⟩ : ∃ ce, ce = checkCfg (alone p) := ⟨_, rfl⟩
      rw [← hce]
      have HCE := Lib.hid hce
      clear hce
      by_cases d2 : ce = 0
      rotate_left
      · have HN := Lib.hid (show newBad idx p = true by unfold newBad; rw [decide_eq_true_iff, ← HCE.out]; exact .inr (.inr d2))
        have d2' : (ce == 0) = false := by simpa using d2
        clear d2
        go_wp2_with fail
        go_ret2
        exact BAD.out HN.out _ _ rfl HB1.out
      · subst d2
        have HN := Lib.hid (show newBad idx p = false by unfold newBad; rw [decide_eq_false_iff_not, ← HCE.out]; omega)
        have hn6 : n ≤ 6 := by
          rw [HLV.out.2]
          exact (tasksMay_iff ((check_parts HCE.out.symm).2.2.1 p (by simp [alone])).2.1).1
        obtain ⟨wd, hw_wd⟩ : ∃ wd, wd = w1.alloc (.cells #[.int .i64 idx, .int .i64 lvl, .slice none 0 0, .slice none 0 0] 87) := ⟨_, rfl⟩
        obtain ⟨b, hg_b⟩ : ∃ b, b = w1.heap.size := ⟨_, rfl⟩
        have hb_wd : Below w1.heap.size w1 wd := by rw [hw_wd]; exact balloc _ _
        have hk_b : wd.heap[b]? = some (.cells #[.int .i64 idx, .int .i64 lvl, .slice none 0 0, .slice none 0 0] 87 (0, 0)) := by rw [hw_wd, hg_b]; exact blk_new _ _
        have hs_wd : wd.heap.size = w1.heap.size + 1 := by rw [hw_wd]; simp
        have HBD := Lib.hid (bthen HB1.out hb_wd)
        have HBL := Lib.hid (show w.heap.size ≤ b by rw [hg_b]; exact HB1.out.size)
        have HL0 := Lib.hid (show LocAt wd b w.heap.size [] (fun k => k = b) (newL idx { p with tasks := p.tasks.take 0 }) from by
          refine ⟨rfl, fun k hk => by rw [hk]; exact HBL.out, fun k hk => .inl (hk ▸ ⟨_, hk_b⟩), rfl, fun p hp => (by cases hp), List.nodup_nil, ⟨_, _, by rw [HLV.out.1] at hk_b; exact hk_b, World.ownsRow_nil _ _ _ _, fun a n cap e => by (cases e), slice0 _ _ _ _, fun a n cap e => by (cases e)⟩, fun i h1 h2 => absurd h1 (by simp)⟩)
        have a1 := BlockIs.of HKA1.out 1 _ rfl
        have a0 := BlockIs.of HKA1.out 0 _ rfl
        have a1' := Ext.below hb_wd _ _ a1
        have HKAD := Lib.hid (keep_at HKA1.out hb_wd)
        have HPD := Lib.hid (HP1.out.ext (Ext.below hb_wd))
        clear hb_wd hk_b hs_wd
        go_wp2_with (rw [← hw_wd, ← hg_b]; clear hw_wd)
        clear a0 a1 a1' hg_b
        go_loopw [32] (fun i wr => ∃ (k : Nat) (ps : List Nat) (F : Nat → Prop), k ≤ n ∧ i = .int .i64 k ∧ ps.length = k ∧ Hid (LocAt wr b w.heap.size ps F (newL idx { p with tasks := p.tasks.take k })) ∧ Hid (Below w.heap.size w wr) ∧ Hid (Below wd.heap.size wd wr ∨ True)) (fun i _ => n - (intOf i).toNat)
        case atStart => exact ⟨0, [], _, by omega, rfl, rfl, HL0, HBD, Lib.hid (.inr trivial)⟩
        case round =>
          obtain ⟨k, ps, F, hk, rfl, hps, HL, HB, -⟩ := hrel
          by_cases hlt : k < n
          · have hlt' : k < p.tasks.length := by rw [← HLV.out.2]; exact hlt
            obtain ⟨t, ht⟩ : ∃ t, t = p.tasks[k] := ⟨_, rfl⟩
            obtain ⟨q, off, ec, z0, z1, z2, z3, z4, z5⟩ : ∃ q off, Value.slice ta n tc = .slice (some ⟨q, off, none⟩) n tc ∧ TaskAt wr q (off + k * 6) t := by
              obtain ⟨a, c, e, -, -, -, hq⟩ := (HP.out.ext (Ext.below HB.out)).tasks
              obtain ⟨q, off, e2, hq2⟩ := hq (by intro h; rw [h] at hlt'; simp at hlt')
              injection e with e _ e3
              exact ⟨q, off, by rw [e, e2], by rw [ht]; exact hq2 k hlt'⟩
            injection ec with ec _ _
            subst ec
            unfold IntAt at z0 z1 z2 z3 z4 z5
            obtain ⟨wt, hw_wt⟩ : ∃ wt, wt = wr.alloc (.cells #[.int .i64 t.kind, .int .i64 t.period, .int .i64 t.deadline, .int .i64 t.clow, .int .i64 t.chigh, .int .i64 t.prio] 50) := ⟨_, rfl⟩
            obtain ⟨gt, hg_gt⟩ : ∃ gt, gt = wr.heap.size := ⟨_, rfl⟩
            have hb_wt : Below wr.heap.size wr wt := by rw [hw_wt]; exact balloc _ _
            have hk_gt : wt.heap[gt]? = some (.cells #[.int .i64 t.kind, .int .i64 t.period, .int .i64 t.deadline, .int .i64 t.clow, .int .i64 t.chigh, .int .i64 t.prio] 50 (0, 0)) := by rw [hw_wt, hg_gt]; exact blk_new _ _
            have hs_wt : wt.heap.size = wr.heap.size + 1 := by rw [hw_wt]; simp
            subst hg_gt
            obtain ⟨r, jv, c1, c2, c3, c4, c5⟩ := (HL.out.keep hb_wt).cell
            have HLT := Lib.hid (HL.out.keep hb_wt)
            have HBT := Lib.hid (bthen HB.out hb_wt)
            have HKT := Lib.hid hk_gt
            have HTB := Lib.hid (show wr.heap.size ≠ b by have := HL.out.lt HL.out.fb; omega)
            have HDF := Lib.hid (And.intro ht (And.intro hlt' hps))
            obtain ⟨xs, hxs⟩ : ∃ xs, xs = ps.map ptrV := ⟨_, rfl⟩
            have HXS := Lib.hid hxs
            rw [← hxs, hps] at c2
            obtain ⟨ra, rcc, hrs⟩ := own_shape c2
            subst hrs
            have HRW := Lib.hid c2
            have HJ4 := Lib.hid (And.intro c4 (And.intro c3 c5))
            have HCB := Lib.hid (show wt.heap[b]? = some (.cells #[.int .i64 idx, .int .i64 lvl, .slice ra k rcc, jv] 87 (0, 0)) by rw [HLV.out.1]; exact c1)
            have x2 := BlockIs.of HCB.out 2 _ rfl
            clear ht hb_wt hk_gt hs_wt c1 c2 c3 c4 c5 hxs hps
            go_wp2_with (rw [← hw_wt]; clear hw_wt z0 z1 z2 z3 z4 z5)
            refine region_inv0 rfl (by kernel_rfl) (NewT w wt b (.slice ra k rcc) k xs (#[.int .i64 t.kind, .int .i64 t.period, .int .i64 t.deadline, .int .i64 t.clow, .int .i64 t.chigh, .int .i64 t.prio, .int .i64 (-1), .slice none 0 0, .int .i64 0]) idx lvl jv (NtV b ra k rcc t)) (fun vs h0 => ⟨(fun i h => by cases h), below_drew HBT.out, (fun k t h _ _ => rfl), (Nat.le_refl _), (fun _ => HRW.out), (fun h => by cases h), (fun h => by cases h), (fun h => by cases h), HCB.out⟩) ?_ ?_
            · simp (config := { maxSteps := 4000000 }) only [List.map, putAll, Act.put, InvE, List.setIfInBounds_toArray, List.set_cons_succ, List.set_cons_zero, Nat.reduceAdd]
              refine ⟨?_, ?_, ?_, ?_, ?_, ?_, ?_, ?_, ?_, ?_, ?_, ?_, ?_, ?_, trivial⟩
              all_goals
                intro L vs W hI hi hn hcl K hK
                rw [if_pos (by simp [Region.wanted])]
              · have HK := Lib.hid (fun (v : Value) (h : v = .pointer (some ⟨b, 0, none⟩)) => hK v W ⟨pv_upd hI.pv h, hI.below, hI.keep, hI.size, hI.row0, hI.box, hI.sl, hI.row1, hI.cell⟩)
                clear hK hI hn hcl hi
                go_simp
                exact HK.out _ rfl
              · have HK := Lib.hid (fun (v : Value) (h : v = .pointer (some ⟨b, 0, none⟩)) => hK v W ⟨pv_upd hI.pv h, hI.below, hI.keep, hI.size, hI.row0, hI.box, hI.sl, hI.row1, hI.cell⟩)
                clear hK hI hn hcl hi
                go_simp
                exact HK.out _ rfl
              · have r1 : vs 1 = .pointer (some ⟨b, 0, none⟩) := hI.pv 1 (hn 1 rfl)
                simp only [r1] at hK ⊢
                have HK := Lib.hid (fun (v : Value) (h : v = .pointer (some ⟨b, 0, none⟩)) => hK v W ⟨pv_upd hI.pv h, hI.below, hI.keep, hI.size, hI.row0, hI.box, hI.sl, hI.row1, hI.cell⟩)
                clear hK hI hn hcl hi
                go_simp
                exact HK.out _ rfl
              · have r2 : vs 2 = .pointer (some ⟨b, 0, none⟩) := hI.pv 2 (hn 2 rfl)
                simp only [r2] at hK ⊢
                have HK := Lib.hid (fun (v : Value) (h : v = .pointer (some ⟨b, 2, none⟩)) => hK v W ⟨pv_upd hI.pv h, hI.below, hI.keep, hI.size, hI.row0, hI.box, hI.sl, hI.row1, hI.cell⟩)
                clear hK hI hn hcl hi
                go_simp
                exact HK.out _ rfl
              · have r3 : vs 3 = .pointer (some ⟨b, 2, none⟩) := hI.pv 3 (hn 3 rfl)
                have h13n : L 13 = false := by
                  cases h : L 13
                  · rfl
                  · exact absurd (hcl 10 _ rfl (hcl 13 _ rfl h 10 rfl) 4 rfl) (Bool.eq_false_iff.1 hi)
                have hc := hI.cell
                rw [h13n] at hc
                simp only [Bool.false_eq_true, if_false] at hc
                have y2 := BlockIs.of hc 2 _ rfl
                clear hc h13n
                simp only [r3] at hK ⊢
                have HK := Lib.hid (fun (v : Value) (h : v = .slice ra k rcc) => hK v W ⟨pv_upd hI.pv h, hI.below, hI.keep, hI.size, hI.row0, hI.box, hI.sl, hI.row1, hI.cell⟩)
                clear hK hI hn hcl hi
                go_simp
                exact HK.out _ rfl
              · have h8n : L 8 = false := by
                  cases h : L 8
                  · rfl
                  · exact absurd (hcl 7 _ rfl (hcl 8 _ rfl h 7 rfl) 5 rfl) (Bool.eq_false_iff.1 hi)
                have hk : W.heap[wr.heap.size]? = some (.cells #[.int .i64 t.kind, .int .i64 t.period, .int .i64 t.deadline, .int .i64 t.clow, .int .i64 t.chigh, .int .i64 t.prio] 50 (0, 0)) := (hI.keep wr.heap.size _ ⟨_, HKT.out⟩ (by decide) HTB.out).trans HKT.out
                have z0 := BlockIs.of hk 0 _ rfl
                have z1 := BlockIs.of hk 1 _ rfl
                have z2 := BlockIs.of hk 2 _ rfl
                have z3 := BlockIs.of hk 3 _ rfl
                have z4 := BlockIs.of hk 4 _ rfl
                have z5 := BlockIs.of hk 5 _ rfl
                clear hk h8n
                have HK := Lib.hid (fun (v : Value) (h : v = .agg #[.int .i64 t.kind, .int .i64 t.period, .int .i64 t.deadline, .int .i64 t.clow, .int .i64 t.chigh, .int .i64 t.prio]) => hK v W ⟨pv_upd hI.pv h, hI.below, hI.keep, hI.size, hI.row0, hI.box, hI.sl, hI.row1, hI.cell⟩)
                clear hK hI hn hcl hi
                go_simp
                exact HK.out _ rfl
              · have HK := Lib.hid (fun (v : Value) (h : v = .agg #[.int .i64 (-1), .slice none 0 0]) => hK v W ⟨pv_upd hI.pv h, hI.below, hI.keep, hI.size, hI.row0, hI.box, hI.sl, hI.row1, hI.cell⟩)
                clear hK hI hn hcl hi
                go_simp
                exact HK.out _ rfl
              · have r5 : vs 5 = .agg #[.int .i64 t.kind, .int .i64 t.period, .int .i64 t.deadline, .int .i64 t.clow, .int .i64 t.chigh, .int .i64 t.prio] := hI.pv 5 (hn 5 rfl)
                have r6 : vs 6 = .agg #[.int .i64 (-1), .slice none 0 0] := hI.pv 6 (hn 6 rfl)
                simp only [r5, r6] at hK ⊢
                have HK := Lib.hid (fun (v : Value) (h : v = .agg #[.int .i64 t.kind, .int .i64 t.period, .int .i64 t.deadline, .int .i64 t.clow, .int .i64 t.chigh, .int .i64 t.prio, .int .i64 (-1), .slice none 0 0, .int .i64 0]) => hK v W ⟨pv_upd hI.pv h, hI.below, hI.keep, hI.size, hI.row0, hI.box, hI.sl, hI.row1, hI.cell⟩)
                clear hK hI hn hcl hi
                go_simp
                exact HK.out _ rfl
              · have r7 : vs 7 = .agg #[.int .i64 t.kind, .int .i64 t.period, .int .i64 t.deadline, .int .i64 t.clow, .int .i64 t.chigh, .int .i64 t.prio, .int .i64 (-1), .slice none 0 0, .int .i64 0] := hI.pv 7 (hn 7 rfl)
                have h9n : L 9 = false := by
                  cases h : L 9
                  · rfl
                  · exact absurd (hcl 9 _ rfl h 8 rfl) (Bool.eq_false_iff.1 hi)
                have h10n : L 10 = false := by
                  cases h : L 10
                  · rfl
                  · exact absurd (hcl 9 _ rfl (hcl 10 _ rfl h 9 rfl) 8 rfl) (Bool.eq_false_iff.1 hi)
                have h13n : L 13 = false := by
                  cases h : L 13
                  · rfl
                  · exact absurd (hcl 9 _ rfl (hcl 10 _ rfl (hcl 13 _ rfl h 10 rfl) 9 rfl) 8 rfl) (Bool.eq_false_iff.1 hi)
                simp only [r7] at hK ⊢
                have HK := Lib.hid hK
                have HI := Lib.hid hI
                have HF := Lib.hid (And.intro h9n (And.intro h10n h13n))
                clear hK hI hn hcl hi h9n h10n h13n
                go_simp
                have hb := balloc W (.cells #[.int .i64 t.kind, .int .i64 t.period, .int .i64 t.deadline, .int .i64 t.clow, .int .i64 t.chigh, .int .i64 t.prio, .int .i64 (-1), .slice none 0 0, .int .i64 0] 92)
                refine HK.out _ _ ⟨pv_upd HI.out.pv trivial, bthen HI.out.below hb, (fun k t h h1 h2 => (hb.block k (Nat.lt_of_lt_of_le h.lt HI.out.size)).trans (HI.out.keep k t h h1 h2)), Nat.le_trans HI.out.size hb.size, (fun q => Below.kept (HI.out.row0 q) hb), (fun _ => ⟨W.heap.size, rfl, HI.out.size, blk_new _ _⟩), (fun q => absurd q (Bool.eq_false_iff.1 HF.out.1)), (fun q => absurd q (Bool.eq_false_iff.1 HF.out.2.1)), ?_⟩
                have hc := HI.out.cell
                rw [HF.out.2.2] at hc
                show (W.alloc _).heap[b]? = _
                rw [show updB L 8 13 = L 13 from rfl, HF.out.2.2]
                exact keep_at hc hb
              · have h10n : L 10 = false := by
                  cases h : L 10
                  · rfl
                  · exact absurd (hcl 10 _ rfl h 9 rfl) (Bool.eq_false_iff.1 hi)
                have h13n : L 13 = false := by
                  cases h : L 13
                  · rfl
                  · exact absurd (hcl 10 _ rfl (hcl 13 _ rfl h 10 rfl) 9 rfl) (Bool.eq_false_iff.1 hi)
                have h8 : L 8 = true := hn 8 rfl
                obtain ⟨g, e8, hg1, hg2⟩ := hI.box h8
                simp only [e8] at hK ⊢
                have HK := Lib.hid hK
                have HI := Lib.hid hI
                have HE8 := Lib.hid e8
                have HG := Lib.hid (And.intro hg1 hg2)
                have HF := Lib.hid (And.intro h10n h13n)
                clear hK hI hn hcl hi h8 e8 hg1 hg2 h10n h13n
                go_simp
                have hb := balloc W (.cells #[.pointer (some ⟨g, 0, none⟩)] 88)
                refine HK.out _ _ ⟨pv_upd HI.out.pv trivial, bthen HI.out.below hb, (fun k t h h1 h2 => (hb.block k (Nat.lt_of_lt_of_le h.lt HI.out.size)).trans (HI.out.keep k t h h1 h2)), Nat.le_trans HI.out.size hb.size, (fun q => Below.kept (HI.out.row0 q) hb), (fun _ => ⟨g, HE8.out, HG.out.1, keep_at HG.out.2 hb⟩), (fun _ _ => ⟨W.heap.size, rfl, by rw [show upd vs 9 _ 8 = vs 8 from rfl, HE8.out]; exact blk_new _ _⟩), (fun q => absurd q (Bool.eq_false_iff.1 HF.out.1)), ?_⟩
                have hc := HI.out.cell
                rw [HF.out.2] at hc
                show (W.alloc _).heap[b]? = _
                rw [show updB L 9 13 = L 13 from rfl, HF.out.2]
                exact keep_at hc hb
              · have r4 : vs 4 = .slice ra k rcc := hI.pv 4 (hn 4 rfl)
                have h13n : L 13 = false := by
                  cases h : L 13
                  · rfl
                  · exact absurd (hcl 13 _ rfl h 10 rfl) (Bool.eq_false_iff.1 hi)
                have h8 : L 8 = true := hcl 9 _ rfl (hn 9 rfl) 8 rfl
                obtain ⟨g, e8, hg1, hg2⟩ := hI.box h8
                obtain ⟨g9, e9, hk9⟩ := hI.sl (hn 9 rfl) hi
                have hr : W.ownsRow w.heap.size 88 1 (.slice ra k rcc) k xs := hI.row0 hi
                rw [e8] at hk9
                have hsrc : Src W (vs 9) 1 [.pointer (some ⟨g, 0, none⟩)] := .inr ⟨⟨g9, 0, none⟩, 1, e9, fun j u hu => by rw [addr_add]; have h := BlockIs.of hk9 j u (by simpa using hu); simpa using h⟩
                refine wp_onto _ (.tmp 40) (.tmp 45) 85 rfl w.heap.size 88 _ 1 8 Try.underlying85 infoRunP rfl (by decide) (.slice ra k rcc) k _ (hI.pv 4 (hn 4 rfl)) hr 1 [.pointer (some ⟨g, 0, none⟩)] hsrc rfl (by simp [Value.oneCell']) (by simp only [maxLen]; omega) (by omega) hI.below.size ?_
                intro v' w' ho hg3
                have hty : ∀ q, (Value.slice ra k rcc).ownBlock = some q → Typed W q 88 := fun q h => own_typed hr h
                have hne : ∀ k' t, Typed W k' t → t ≠ 88 → (Value.slice ra k rcc).ownBlock ≠ some k' := fun k' t h h1 q => typed_ne h (hty k' q) h1 rfl
                have hkb := hI.cell
                rw [h13n] at hkb
                refine hK v' w' ⟨pv_upd hI.pv trivial, hI.below.grown hg3 hI.below.size (fun q hq => (hr.lt q hq).1), (fun k t h h1 h2 => ?_), Nat.le_trans hI.size hg3.size, (fun q => absurd q (by simp [updB])), (fun _ => ⟨g, e8, hg1, typed_apart hg2 hg3 hty (by decide)⟩), (fun _ q => absurd q (by simp [updB])), (fun _ => ?_), ?_⟩
                · have h3 := hI.keep k t h h1 h2
                  have h4 : Typed W k t := h.far h3
                  exact (hg3.block k h4.lt (fun q => hne k t h4 h1 q.symm)).trans h3
                · rw [show upd vs 10 v' 8 = vs 8 from rfl, e8]
                  exact ho
                · rw [show updB L 10 13 = L 13 from rfl, h13n]
                  exact typed_apart hkb hg3 hty (by decide)
              · have r0 : vs 0 = .pointer (some ⟨b, 0, none⟩) := hI.pv 0 (hn 0 rfl)
                simp only [r0] at hK ⊢
                have HK := Lib.hid (fun (v : Value) (h : v = .pointer (some ⟨b, 0, none⟩)) => hK v W ⟨pv_upd hI.pv h, hI.below, hI.keep, hI.size, hI.row0, hI.box, hI.sl, hI.row1, hI.cell⟩)
                clear hK hI hn hcl hi
                go_simp
                exact HK.out _ rfl
              · have r11 : vs 11 = .pointer (some ⟨b, 0, none⟩) := hI.pv 11 (hn 11 rfl)
                simp only [r11] at hK ⊢
                have HK := Lib.hid (fun (v : Value) (h : v = .pointer (some ⟨b, 2, none⟩)) => hK v W ⟨pv_upd hI.pv h, hI.below, hI.keep, hI.size, hI.row0, hI.box, hI.sl, hI.row1, hI.cell⟩)
                clear hK hI hn hcl hi
                go_simp
                exact HK.out _ rfl
              · have r12 : vs 12 = .pointer (some ⟨b, 2, none⟩) := hI.pv 12 (hn 12 rfl)
                have h10 : L 10 = true := hn 10 rfl
                have h9 : L 9 = true := hcl 10 _ rfl h10 9 rfl
                have h8 : L 8 = true := hcl 9 _ rfl h9 8 rfl
                obtain ⟨g, e8, hg1, hg2⟩ := hI.box h8
                have hx := hI.row1 h10
                have hc := hI.cell
                rw [hi] at hc
                simp only [Bool.false_eq_true, if_false] at hc
                have y2 := BlockIs.of hc 2 _ rfl
                have f2 := thaw hc 2
                obtain ⟨ra2, rc2, e10⟩ := own_shape hx
                have hgs := set_grown W b 2 (vs 10)
                have hty : ∀ q, some b = some q → Typed W q 87 := fun q h => by injection h with h; rw [← h]; exact ⟨_, hc⟩
                have HN := Lib.hid (show NewT w wt b (.slice ra k rcc) k xs (#[.int .i64 t.kind, .int .i64 t.period, .int .i64 t.deadline, .int .i64 t.clow, .int .i64 t.chigh, .int .i64 t.prio, .int .i64 (-1), .slice none 0 0, .int .i64 0]) idx lvl jv (NtV b ra k rcc t) (updB L 13) (upd vs 13 undef) (W.setCell ⟨b, 2, none⟩ (vs 10)) from ⟨pv_upd hI.pv trivial, hI.below.grown hgs hI.below.size (fun q hq => by injection hq with hq; rw [← hq]; exact HBL.out), (fun k t h h1 h2 => (hgs.block k (Nat.lt_of_lt_of_le h.lt hI.size) (fun q => h2 (by injection q))).trans (hI.keep k t h h1 h2)), Nat.le_trans hI.size hgs.size, (fun q => absurd q (by rw [show updB L 13 10 = L 10 from rfl, h10]; decide)), (fun _ => ⟨g, e8, hg1, typed_apart hg2 hgs hty (by decide)⟩), (fun _ q => absurd q (by rw [show updB L 13 10 = L 10 from rfl, h10]; decide)), (fun _ => own_apart hx hgs hty (by decide)), by have h := blk_set hc 2 (vs 10); simp only [List.setIfInBounds_toArray, List.set_cons_succ, List.set_cons_zero] at h; exact h⟩)
                rw [e10] at HN
                simp only [r12, e10] at hK ⊢
                have HK := Lib.hid hK
                clear hK hI hn hcl hi h10 h9 h8 e8 hg1 hg2 hc hx hgs hty e10
                go_simp
                exact HK.out _ _ HN.out
            · intro vs W hI
              simp only [List.map, putAll, Act.put, List.setIfInBounds_toArray, List.set_cons_succ, List.set_cons_zero, Nat.reduceAdd]
              have hbox := hI.box (by simp)
              have hrow := hI.row1 (by simp)
              have hcell := hI.cell
              simp only [List.length_cons, List.length_nil, Nat.zero_add, Nat.reduceAdd, Nat.reduceLT, decide_true, if_true] at hcell
              have r0 : vs 0 = .pointer (some ⟨b, 0, none⟩) := hI.pv 0 (by simp)
              have r1 : vs 1 = .pointer (some ⟨b, 0, none⟩) := hI.pv 1 (by simp)
              have r2 : vs 2 = .pointer (some ⟨b, 0, none⟩) := hI.pv 2 (by simp)
              have r3 : vs 3 = .pointer (some ⟨b, 2, none⟩) := hI.pv 3 (by simp)
              have r4 : vs 4 = .slice ra k rcc := hI.pv 4 (by simp)
              have r5 : vs 5 = .agg #[.int .i64 t.kind, .int .i64 t.period, .int .i64 t.deadline, .int .i64 t.clow, .int .i64 t.chigh, .int .i64 t.prio] := hI.pv 5 (by simp)
              have r6 : vs 6 = .agg #[.int .i64 (-1), .slice none 0 0] := hI.pv 6 (by simp)
              have r7 : vs 7 = .agg #[.int .i64 t.kind, .int .i64 t.period, .int .i64 t.deadline, .int .i64 t.clow, .int .i64 t.chigh, .int .i64 t.prio, .int .i64 (-1), .slice none 0 0, .int .i64 0] := hI.pv 7 (by simp)
              have r11 : vs 11 = .pointer (some ⟨b, 0, none⟩) := hI.pv 11 (by simp)
              have r12 : vs 12 = .pointer (some ⟨b, 2, none⟩) := hI.pv 12 (by simp)
              have HII := Lib.hid hI
              obtain ⟨g, e8, hg1, hg2⟩ := hbox
              rw [e8] at hrow
              have HRS := Lib.hid (And.intro hrow (And.intro hcell (And.intro hg1 hg2)))
              obtain ⟨ra2, rc2, e10⟩ := own_shape hrow
              simp only [r0, r1, r2, r3, r4, r5, r6, r7, r11, r12]
              clear hI hrow hcell hg2 r0 r1 r2 r3 r4 r5 r6 r7 r11 r12
              have HLN := Lib.hid (show LocAt W b w.heap.size (ps ++ [g]) _ (newL idx { p with tasks := p.tasks.take (k + 1) }) from by
                have h := HLT.out.addRun (r := ⟨t, ⟨-1, []⟩, 0⟩) HBT.out.size (by rfl) (by have h := HCB.out; rw [HLV.out.1] at h; exact h) HJ4.out.1 HJ4.out.2.2 HRS.out.2.2.1 HRS.out.2.2.2 rfl (by have h := HRS.out.2.1; rw [HLV.out.1] at h; exact h) (by rw [HDF.out.2.2, ← HXS.out]; exact HRS.out.1) HII.out.keep
                have e : p.tasks.take (k + 1) = p.tasks.take k ++ [t] := by rw [List.take_add_one, List.getElem?_eq_getElem HDF.out.2.1, show p.tasks[k]'HDF.out.2.1 = t from HDF.out.1.symm]; rfl
                have e2 : newL idx { p with tasks := p.tasks.take (k + 1) } = { newL idx { p with tasks := p.tasks.take k } with rs := (newL idx { p with tasks := p.tasks.take k }).rs ++ [⟨t, ⟨-1, []⟩, 0⟩] } := by unfold newL; rw [e]; simp
                rw [e2]
                exact h)
              have HBN := Lib.hid HII.out.below
              have hpl := HDF.out.2.2
              clear HII HRS hg1
              go_wp2_with fail
              go_roundw
              case rel => exact ⟨k + 1, _, _, by omega, by go_num, by simp [hpl], HLN, HBN, Lib.hid (.inr trivial)⟩
              case measure => simp [intOf]; omega
          · obtain rfl : k = n := by omega
            go_wp2_with fail
            go_ret2
            refine ⟨fun h => absurd (HN.out.symm.trans h) (by decide), fun _ => ⟨b, ps, F, rfl, ?_⟩, HB.out⟩
            have h := HL.out
            rw [HLV.out.2, List.take_length] at h
            exact h
end Go.Proofs.Ytbkhnlacabaagaa
