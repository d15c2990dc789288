/- The law AdmitMore. -/
import Derived.Test.YthnecccakeminaaLaw9g
import Derived.Test.YthnecccakeminaaMoreQ
set_option linter.unusedVariables false
set_option linter.unusedSimpArgs false
namespace Go.Proofs.Ythnecccakeminaa
open Go.RowKit

theorem WinsAt.below {W W' : World} {b : Nat} {ws : List Window} (h : WinsAt W b ws) (hb : Below W.heap.size W W') : WinsAt W' b ws := by
  obtain ⟨cur, h1, h2⟩ := h
  exact ⟨cur, keep_at h1 hb, h2⟩
theorem grown_trans {a b c : World} {r : Option Nat} (h : a.grownBy b r) (k : b.grownBy c r) : a.grownBy c r :=
  ⟨k.os.trans h.os, k.tape.trans h.tape, k.output.trans h.output, Nat.le_trans h.size k.size, fun j hj hr => (k.block j (Nat.lt_of_lt_of_le hj h.size) hr).trans (h.block j hj hr)⟩
/-- A copy whose windows have been written over. -/
theorem CfgOwn.wins {w W W' : World} {B b kw : Nat} {pv ov : Value} {c : Config} {ws' : List Window} (h : CfgOwn w W B pv (.slice (some ⟨b, 0, none⟩) c.windows.length kw) ov c) (hg : W.grownBy W' (some b)) (hB : w.heap.size ≤ B) (hbl : Below w.heap.size w W) (h0 : 0 < c.windows.length) (hl32 : c.windows.length ≤ 32) (hw : WinsAt W' b ws') (hl : ws'.length = c.windows.length) :
    CfgIs W' pv (.slice (some ⟨b, 0, none⟩) c.windows.length kw) ov ⟨c.frame, c.quiet, c.parts, ws', c.ports⟩ ∧ Below w.heap.size w W' := by
  obtain ⟨nw, w1, w2⟩ := h.windows
  obtain ⟨no, o1, o2⟩ := h.ports
  obtain ⟨b', kw', e, hb, hk1, hk2⟩ := ownsRow_some w1 h0
  injection e with e _ e3
  injection e with e
  injection e with e
  subst e
  subst e3
  have hbw : Below w.heap.size w W' := hbl.grown hg hbl.size (fun k hk => by injection hk with hk; omega)
  have hx := Ext.below hbw
  have hty : ∀ g, some b = some g → Typed W g 47 := fun g hg => own_typed w1 (by rw [← hg]; rfl)
  refine ⟨⟨(h.parts.apart hg hty (by decide) (by decide) (by decide)).parts hx h.room, ?_, o2 _ _ _ hx (own_apart o1 hg hty (by decide))⟩, hbw⟩
  have := hw.wins (cap := kw) (by omega) (by omega) hk2
  rw [hl] at this
  exact this
theorem longer_last (F p : Int) (ws : List Window) (m : Nat) (hm : m < ws.length) (h : m = ws.length - 1) : longer F p ws = ws.set m ⟨ws[m].from_, if ws[m].to_ < F then F else ws[m].to_, p⟩ := by
  have := longer_set F p ws (by intro e; rw [e] at hm; simp at hm)
  rw [this]
  subst h
  rfl
/-- A copy's tasks' block. -/
def TasksAt (W : World) (b : Nat) (ts : List Task) : Prop :=
  ∃ cur, W.heap[b]? = some (.cells cur 44 (0, 0)) ∧ ∀ i (h : i < ts.length), cur[i * 6]? = some (.int .i64 ts[i].kind) ∧ cur[i * 6 + 1]? = some (.int .i64 ts[i].period) ∧ cur[i * 6 + 2]? = some (.int .i64 ts[i].deadline) ∧ cur[i * 6 + 3]? = some (.int .i64 ts[i].clow) ∧ cur[i * 6 + 4]? = some (.int .i64 ts[i].chigh) ∧ cur[i * 6 + 5]? = some (.int .i64 ts[i].prio)
theorem TasksAt.tasks {W : World} {b cap : Nat} {ts : List Task} (h : TasksAt W b ts) (h1 : ts.length * 48 ≤ 140737488351232) (h2 : ts.length ≤ cap) (h3 : cap ≤ maxLen) : TasksV W (.slice (some ⟨b, 0, none⟩) ts.length cap) ts := by
  obtain ⟨cur, e1, e2⟩ := h
  refine ⟨_, cap, rfl, h1, h2, h3, fun _ => ⟨b, 0, rfl, fun i hi => ?_⟩⟩
  obtain ⟨x0, x1, x2, x3, x4, x5⟩ := e2 i hi
  have hb := BlockIs.of e1
  rw [Nat.zero_add]
  exact ⟨hb _ _ x0, hb _ _ x1, hb _ _ x2, hb _ _ x3, hb _ _ x4, hb _ _ x5⟩
theorem TasksAt.put {W : World} {b : Nat} {ts : List Task} (h : TasksAt W b ts) (I : Nat) (hI : I < ts.length) (t : Task) :
    TasksAt ((((((W.setCell ⟨b, I * 6, none⟩ (.int .i64 t.kind)).setCell ⟨b, I * 6 + 1, none⟩ (.int .i64 t.period)).setCell ⟨b, I * 6 + 2, none⟩ (.int .i64 t.deadline)).setCell ⟨b, I * 6 + 3, none⟩ (.int .i64 t.clow)).setCell ⟨b, I * 6 + 4, none⟩ (.int .i64 t.chigh)).setCell ⟨b, I * 6 + 5, none⟩ (.int .i64 t.prio)) b (ts.set I t) := by
  obtain ⟨cur, e1, e2⟩ := h
  have hs : I * 6 + 5 < cur.size := (Array.getElem?_eq_some_iff.1 (e2 I hI).2.2.2.2.2).1
  refine ⟨_, blk_set (blk_set (blk_set (blk_set (blk_set (blk_set e1 _ _) _ _) _ _) _ _) _ _) _ _, fun i hi => ?_⟩
  have hi' : i < ts.length := by simpa using hi
  obtain ⟨x0, x1, x2, x3, x4, x5⟩ := e2 i hi'
  rw [List.getElem_set]
  by_cases e : I = i
  · subst e
    rw [if_pos rfl]
    refine ⟨?_, ?_, ?_, ?_, ?_, ?_⟩
    all_goals
      simp only [Array.getElem?_setIfInBounds, Array.size_setIfInBounds]
      simp
      omega
  · rw [if_neg e]
    refine ⟨?_, ?_, ?_, ?_, ?_, ?_⟩
    all_goals
      repeat rw [Array.getElem?_setIfInBounds_ne (by omega)]
      assumption
theorem TasksAt.below {W W' : World} {b : Nat} {ts : List Task} (h : TasksAt W b ts) (hb : Below W.heap.size W W') : TasksAt W' b ts := by
  obtain ⟨cur, h1, h2⟩ := h
  exact ⟨cur, keep_at h1 hb, h2⟩
theorem below_grown {W W' : World} (h : Below W.heap.size W W') (r : Option Nat) : W.grownBy W' r := ⟨h.os, h.tape, h.output, h.size, fun k hk _ => h.block k hk⟩
theorem chain_grown (W : World) (b : Nat) (o0 o1 o2 o3 o4 o5 : Nat) (u0 u1 u2 u3 u4 u5 : Value) : W.grownBy ((((((W.setCell ⟨b, o0, none⟩ u0).setCell ⟨b, o1, none⟩ u1).setCell ⟨b, o2, none⟩ u2).setCell ⟨b, o3, none⟩ u3).setCell ⟨b, o4, none⟩ u4).setCell ⟨b, o5, none⟩ u5) (some b) :=
  grown_trans (grown_trans (grown_trans (grown_trans (grown_trans (set_grown _ _ _ _) (set_grown _ _ _ _)) (set_grown _ _ _ _)) (set_grown _ _ _ _)) (set_grown _ _ _ _)) (set_grown _ _ _ _)
/-- A copy's first part's tasks, and what becomes of the copy when they are written over. -/
theorem CfgOwn.task {w W : World} {q kp : Nat} {wv ov : Value} {c : Config} (h : CfgOwn w W w.heap.size (.slice (some ⟨q, 0, none⟩) c.parts.length kp) wv ov c) (hbl : Below w.heap.size w W) (hP : 0 < c.parts.length) (I : Nat) (hI : I < c.parts[0].tasks.length) :
    ∃ bt ct, W.cell? ⟨q, 1, none⟩ = some (.slice (some ⟨bt, 0, none⟩) c.parts[0].tasks.length ct) ∧ TaskAt W bt (I * 6) c.parts[0].tasks[I] ∧ (∀ j, W.frozen? ⟨bt, j, none⟩ = false) ∧ Typed W bt 44 ∧ TasksAt W bt c.parts[0].tasks ∧
      ∀ W' ch, W.grownBy W' (some bt) → TasksAt W' bt (c.parts[0].tasks.set I (moreTask c.parts[0].tasks[I] ch)) → CfgIs W' (.slice (some ⟨q, 0, none⟩) c.parts.length kp) wv ov (withParts c (moreParts c I ch)) ∧ Below w.heap.size w W' := by
  obtain ⟨nw, w1, w2⟩ := h.windows
  obtain ⟨no, o1, o2⟩ := h.ports
  have hroom := h.room
  obtain ⟨L, r1, r2, r3⟩ := h.parts
  have hx := Ext.below hbl
  obtain ⟨tv, cv, a1, a2, a3, nt, nc, b1, b2, b3, b4⟩ := r2 0 hP hP
  obtain ⟨bt, ct, rfl, hbt, hct1, hct2⟩ := ownsRow_some b1 (by omega)
  have hty0 := own_typed b1 (g := bt) rfl
  obtain ⟨cur, hcur⟩ := id hty0
  have hT := b3 W _ _ hx b1
  obtain ⟨aa, cc, e, hlen, -, -, h5⟩ := hT
  injection e with e _ _
  subst e
  obtain ⟨b', off, e, hc⟩ := h5 (by intro e; rw [e] at hI; simp at hI)
  injection e with e
  injection e with e e'
  subst e
  subst e'
  have hTA : TasksAt W bt c.parts[0].tasks := by
    have hget : ∀ (j : Nat) (v : Value), W.cell? ⟨bt, j, none⟩ = some v → cur[j]? = some v := by
      intro j v hj
      unfold World.cell? at hj
      rw [hcur] at hj
      simpa using hj
    refine ⟨cur, hcur, fun i hi => ?_⟩
    obtain ⟨x0, x1, x2, x3, x4, x5⟩ := hc i hi
    rw [Nat.zero_add] at x0 x1 x2 x3 x4 x5
    exact ⟨hget _ _ x0, hget _ _ x1, hget _ _ x2, hget _ _ x3, hget _ _ x4, hget _ _ x5⟩
  have hLl : L.length = c.parts.length * 3 := r1.1
  refine ⟨bt, ct, ?_, by have := hc I hI; rwa [Nat.zero_add] at this, fun j => thaw hcur j, hty0, hTA, ?_⟩
  · have := r1.cellAt 1 (by omega)
    rw [this]
    exact a2
  · intro W' ch hg hTA'
    have hbw : Below w.heap.size w W' := hbl.grown hg hbl.size (fun k hk => by injection hk with hk; omega)
    have hx' := Ext.below hbw
    have hty : ∀ g, some bt = some g → Typed W g 44 := fun g hg => by injection hg with hg; rw [← hg]; exact hty0
    have r1' := own_apart r1 hg hty (by decide)
    refine ⟨⟨?_, w2 _ _ _ hx' (own_apart w1 hg hty (by decide)), o2 _ _ _ hx' (own_apart o1 hg hty (by decide))⟩, hbw⟩
    obtain ⟨q', kp', e, -, hq2, hq3⟩ := ownsRow_some r1 hP
    injection e with _ _ e
    subst e
    have hml := moreParts_len c I ch
    refine ⟨some ⟨q, 0, none⟩, kp, by rw [show (withParts c (moreParts c I ch)).parts.length = c.parts.length from hml], by rw [show (withParts c (moreParts c I ch)).parts.length = c.parts.length from hml]; exact hroom, by rw [show (withParts c (moreParts c I ch)).parts.length = c.parts.length from hml]; exact hq2, hq3, fun _ => ⟨q, 0, rfl, fun j hj => ?_⟩⟩
    have hj' : j < c.parts.length := by rw [← hml]; exact hj
    rw [Nat.zero_add]
    have hcell : ∀ k v, L[k]? = some v → W'.cell? ⟨q, k, none⟩ = some v := fun k v hk => by
      rw [r1'.cellAt k (by have := (List.getElem?_eq_some_iff.1 hk).1; omega)]
      exact hk
    by_cases e : j = 0
    · subst e
      have hz : (withParts c (moreParts c I ch)).parts[0] = _ := moreParts_zero c I ch hP hI
      rw [hz]
      have hT' := hTA'.tasks (cap := ct) (by simpa using hlen) (by simpa using hct1) hct2
      rw [List.length_set] at hT'
      exact ⟨hcell _ _ a1, _, _, hcell _ _ a2, hcell _ _ a3, ⟨hT', b4 _ _ _ hx' (own_apart b2 hg hty (by decide))⟩⟩
    · have hz : (withParts c (moreParts c I ch)).parts[j] = _ := moreParts_other c I ch j hj' e
      rw [hz]
      obtain ⟨tv', cv', c1, c2, c3, nt', nc', d1, d2, d3, d4⟩ := r2 j hj' hj'
      have hne : tv'.ownBlock ≠ some bt := r3 0 j (by omega) hj' _ _ a2 c2 bt rfl
      exact ⟨hcell _ _ c1, _, _, hcell _ _ c2, hcell _ _ c3, ⟨d3 _ _ _ hx' (d1.kept hg (.inr hne)), d4 _ _ _ hx' (own_apart d2 hg hty (by decide))⟩⟩
end Go.Proofs.Ythnecccakeminaa
