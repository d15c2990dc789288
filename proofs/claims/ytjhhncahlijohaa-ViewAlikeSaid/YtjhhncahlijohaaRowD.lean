/- Rows and events: how they lie in memory. -/
import Derived.Test.YtjhhncahlijohaaCopy1
set_option linter.unusedVariables false
set_option linter.unusedSimpArgs false
namespace Go.Proofs.Ytjhhncahlijohaa
open Go.RowKit

structure Event where
  kind : Int
  part : Int
  task : Int
  value : Int
deriving DecidableEq
structure Row where
  tick : Int
  owner : Int
  dealt : Bool
  mode : Int
  events : List Event
deriving DecidableEq
def EventAt (w : World) (b o : Nat) (x : Event) : Prop := IntAt w b o x.kind ∧ IntAt w b (o + 1) x.part ∧ IntAt w b (o + 2) x.task ∧ IntAt w b (o + 3) x.value
theorem EventAt.ext {w w' : World} (e : Ext w w') {b o : Nat} {x : Event} (h : EventAt w b o x) : EventAt w' b o x := ⟨h.1.ext e, h.2.1.ext e, h.2.2.1.ext e, h.2.2.2.ext e⟩
def EventsV (w : World) (v : Value) (xs : List Event) : Prop := SliceAt EventAt 4 32 w v xs
theorem EventsV.ext {w w' : World} (e : Ext w w') {v : Value} {xs : List Event} (h : EventsV w v xs) : EventsV w' v xs := SliceAt.ext (fun _ _ _ => EventAt.ext e) h
def BoolAt (w : World) (b o : Nat) (x : Bool) : Prop := w.cell? ⟨b, o, none⟩ = some (.bool x)
theorem BoolAt.ext {w w' : World} (e : Ext w w') {b o : Nat} {x : Bool} (h : BoolAt w b o x) : BoolAt w' b o x := e _ _ h
/-- A row's five cells, of which the last one is its events' slice. -/
def RowAt (w : World) (b o : Nat) (x : Row) : Prop := IntAt w b o x.tick ∧ IntAt w b (o + 1) x.owner ∧ BoolAt w b (o + 2) x.dealt ∧ IntAt w b (o + 3) x.mode ∧ ∃ ev, w.cell? ⟨b, o + 4, none⟩ = some ev ∧ EventsV w ev x.events
theorem RowAt.ext {w w' : World} (e : Ext w w') {b o : Nat} {x : Row} (h : RowAt w b o x) : RowAt w' b o x := by
  obtain ⟨h0, h1, h2, h3, ev, h4, h5⟩ := h
  exact ⟨h0.ext e, h1.ext e, h2.ext e, h3.ext e, ev, e _ _ h4, h5.ext e⟩
def RowsV (w : World) (v : Value) (xs : List Row) : Prop := SliceAt RowAt 5 56 w v xs
theorem RowsV.ext {w w' : World} (e : Ext w w') {v : Value} {xs : List Row} (h : RowsV w v xs) : RowsV w' v xs := SliceAt.ext (fun _ _ _ => RowAt.ext e) h
theorem told_event : Told EventAt 4 where
  has h j hj := by
    obtain ⟨h0, h1, h2, h3⟩ := h
    rcases (show j = 0 ∨ j = 1 ∨ j = 2 ∨ j = 3 by omega) with rfl | rfl | rfl | rfl
    · exact IntAt.has h0
    · exact IntAt.has h1
    · exact IntAt.has h2
    · exact IntAt.has h3
  move h _ hm := by
    obtain ⟨h0, h1, h2, h3⟩ := h
    exact ⟨hm 0 _ (by decide) h0, hm 1 _ (by decide) h1, hm 2 _ (by decide) h2, hm 3 _ (by decide) h3⟩
theorem told_row : Told RowAt 5 where
  has h j hj := by
    obtain ⟨h0, h1, h2, h3, ev, h4, h5⟩ := h
    rcases (show j = 0 ∨ j = 1 ∨ j = 2 ∨ j = 3 ∨ j = 4 by omega) with rfl | rfl | rfl | rfl | rfl
    · exact IntAt.has h0
    · exact IntAt.has h1
    · exact ⟨_, h2, rfl⟩
    · exact IntAt.has h3
    · obtain ⟨a, cap, rfl, -⟩ := h5
      exact ⟨_, h4, rfl⟩
  move h e hm := by
    obtain ⟨h0, h1, h2, h3, ev, h4, h5⟩ := h
    exact ⟨hm 0 _ (by decide) h0, hm 1 _ (by decide) h1, hm 2 _ (by decide) h2, hm 3 _ (by decide) h3, ev, hm 4 _ (by decide) h4, h5.ext e⟩
theorem EventsV.shape {w : World} {v : Value} {xs : List Event} (h : EventsV w v xs) : ∃ a cap, v = .slice a xs.length cap := by
  obtain ⟨a, cap, h1, -⟩ := h
  exact ⟨a, cap, h1⟩
section
variable {P : Program} {w : World}
/-- 'append(s, x)' of one element, whatever the row's length. -/
theorem append_elem {ops : Array Oper} {rest : List Oper} {o : Oper} {a : Act} {Q : Exit → Act → World → Prop} (hgd : o.guard = none) (s x : Operand) (t : TypeId)
    (ho : o.op = .call { callee := .builtin .append, args := #[s, x], argTypes := #[t, t] })
    (base : Nat) (e : TypeId) (z : Value) (size bytes : Nat) (ht : P.underlying t = some (.slice e)) (hinfo : (P.info? e).map (fun i => (i.zero, i.size, i.bytes)) = some (some z, size, bytes)) (hzs : z.cells.size = size) (hsz : 0 < size)
    (v : Value) (n : Nat) (xs : List Value) (hs : a.eval s = v) (hown : w.ownsRow base e size v n xs)
    (cs : List Value) (B : Nat) (hB : w.heap.size = B) (hx : a.eval x = .slice (some ⟨B, 0, none⟩) 1 1) (hl : cs.length = size) (h1 : cs.all (·.oneCell') = true)
    (h63 : n + 1 ≤ 9223372036854775807) (hbytes : (n + 1) * bytes ≤ 140737488355328) (hbase : base ≤ w.heap.size)
    (h : ∀ v' w', w'.ownsRow base e size v' (n + 1) (xs ++ cs) → Below base w w' → (w.alloc (.cells cs.toArray e)).grownBy w' v.ownBlock → wpList P ops Q rest (a.put o.dst v') w') : wpList P ops Q (o :: rest) a (w.alloc (.cells cs.toArray e)) := by
  subst hB
  obtain ⟨i, hi, hz, hsize, hby⟩ := info_parts hinfo
  have hnew := heap_alloc_new w (.cells cs.toArray e)
  refine wpList_append_own (w := w.alloc (.cells cs.toArray e)) hgd s x t ho base e i z size bytes ht hi hz hsize hby hzs hsz v n xs hs (hown.alloc _) ⟨w.heap.size, 0, none⟩ 1 1 cs hx (by omega) ?_ ?_ (by unfold maxLen; omega) hbytes (by simp; omega) ?_
  · intro j u hj
    rw [addr_add]
    unfold World.cell?
    simp only [hnew]
    simpa using hj
  · intro u hu
    exact List.all_eq_true.1 h1 u hu
  · intro v' w' ho' hg' _
    refine h v' w' ho' ?_ hg'
    exact ((Below.refl base w).alloc hbase _).grown hg' (by simp; omega) (fun k hk => (hown.lt k hk).1)
end
theorem infoEvent : (Try.prog.info? 39).map (fun i => (i.zero, i.size, i.bytes)) = some (some (.agg #[.int .i64 0, .int .i64 0, .int .i64 0, .int .i64 0]), 4, 32) := by kernel_rfl
theorem infoRow : (Try.prog.info? 29).map (fun i => (i.zero, i.size, i.bytes)) = some (some (.agg #[.int .i64 0, .int .i64 0, .bool false, .int .i64 0, .slice none 0 0]), 5, 56) := by kernel_rfl
end Go.Proofs.Ytjhhncahlijohaa
