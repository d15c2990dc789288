/- Slices and rows of the call's own, whatever their elements. -/
import Derived.Test.YtkjjfidbmkpljaaRow
import Derived.Laws.OwnMore
import Derived.Deep.RegionLaw
import Derived.Deep.RegionHeld3
import Derived.Deep.DeepCutAuto
set_option linter.unusedVariables false
set_option linter.unusedSimpArgs false
namespace Go.Proofs.Ytkjjfidbmkpljaa
open Go.RowKit

theorem slice0 {α : Type} (P : World → Nat → Nat → α → Prop) (k B : Nat) (w : World) : SliceAt P k B w (.slice none 0 0) [] :=
  ⟨none, 0, rfl, by simp, by simp, by simp, fun h => absurd rfl h⟩
theorem slice1 {α : Type} {P : World → Nat → Nat → α → Prop} {k B : Nat} {w : World} {b : Nat} {x : α} (hB : B ≤ 100) (h0 : P w b 0 x) : SliceAt P k B w (.slice (some ⟨b, 0, none⟩) 1 1) [x] :=
  ⟨some ⟨b, 0, none⟩, 1, rfl, by simp; omega, by simp, by decide, fun _ => ⟨b, 0, rfl, fun i hi => by
    obtain rfl : i = 0 := by simp at hi; omega
    simpa using h0⟩⟩
theorem slice2 {α : Type} {P : World → Nat → Nat → α → Prop} {k B : Nat} {w : World} {b : Nat} {x y : α} (hB : B ≤ 100) (h0 : P w b 0 x) (h1 : P w b k y) : SliceAt P k B w (.slice (some ⟨b, 0, none⟩) 2 2) [x, y] :=
  ⟨some ⟨b, 0, none⟩, 2, rfl, by simp; omega, by simp, by decide, fun _ => ⟨b, 0, rfl, fun i hi => by
    have hi : i < 2 := by simpa using hi
    match i, hi with
    | 0, _ => simpa using h0
    | 1, _ => simpa using h1⟩⟩
theorem heap_push (w : World) (o : Obj) : (w.alloc o).heap = w.heap.push o := rfl
/-- A block known whole. -/
def BlockIs (W : World) (b : Nat) (cs : Array Value) : Prop := ∀ j v, cs[j]? = some v → W.cell? ⟨b, j, none⟩ = some v
theorem BlockIs.of {W : World} {b : Nat} {cs : Array Value} {t : TypeId} {fr : Nat × Nat} (h : W.heap[b]? = some (.cells cs t fr)) : BlockIs W b cs := by
  intro j v hv
  unfold World.cell?
  rw [h]
  simpa using hv
theorem BlockIs.ext {W W' : World} (e : Ext W W') {b : Nat} {cs : Array Value} (h : BlockIs W b cs) : BlockIs W' b cs := fun j v hv => e _ _ (h j v hv)
/-- What is told of an element by its k cells alone (and by what they lead to). -/
structure Told {α : Type} (P : World → Nat → Nat → α → Prop) (k : Nat) : Prop where
  has : ∀ {w : World} {b o : Nat} {x : α}, P w b o x → ∀ j, j < k → ∃ u, w.cell? ⟨b, o + j, none⟩ = some u ∧ u.oneCell' = true
  move : ∀ {w w' : World} {b o b' o' : Nat} {x : α}, P w b o x → Ext w w' → (∀ j u, j < k → w.cell? ⟨b, o + j, none⟩ = some u → w'.cell? ⟨b', o' + j, none⟩ = some u) → P w' b' o' x
theorem IntAt.has {w : World} {b o : Nat} {x : Int} (h : IntAt w b o x) : ∃ u, w.cell? ⟨b, o, none⟩ = some u ∧ u.oneCell' = true := ⟨_, h, rfl⟩
theorem told_int : Told IntAt 1 where
  has h j hj := by
    obtain rfl : j = 0 := by omega
    exact IntAt.has h
  move h _ hm := hm 0 _ (by decide) h
/-- What an append reads: nothing, or m elements' cells from an address on. -/
def Src (w : World) (x : Value) (m : Nat) (news : List Value) : Prop :=
  (∃ c, x = .slice none m c ∧ m = 0 ∧ news = []) ∨ ∃ ad c, x = .slice (some ad) m c ∧ ∀ j u, news[j]? = some u → w.cell? (ad.add j) = some u
theorem SliceAt.cells {α : Type} {P : World → Nat → Nat → α → Prop} {k B : Nat} (T : Told P k) (hk : 0 < k) {w : World} {v : Value} {xs : List α} (h : SliceAt P k B w v xs) :
    ∃ news : List Value, news.length = xs.length * k ∧ (∀ u ∈ news, u.oneCell' = true) ∧ Src w v xs.length news ∧
      ∀ (w' : World) (base : Nat) (e : TypeId) (v' : Value), Ext w w' → w'.ownsRow base e k v' xs.length news → SliceAt P k B w' v' xs := by
  obtain ⟨a, cap, rfl, h2, h3, h4, h5⟩ := h
  by_cases hx : xs = []
  · subst hx
    refine ⟨[], by simp, by simp, ?_, ?_⟩
    · rcases a with _ | ad
      · exact .inl ⟨cap, rfl, rfl, rfl⟩
      · exact .inr ⟨ad, cap, rfl, by simp⟩
    · intro w' base e v' _ hown
      rcases hown.2 with ⟨rfl, _⟩ | ⟨g, cap', cur, rfl, _, _, hn, hm, _⟩
      · exact slice0 _ _ _ _
      · exact ⟨_, cap', rfl, by simp, hn, hm, fun h => absurd rfl h⟩
  · obtain ⟨b, off, rfl, hcell⟩ := h5 hx
    have hat : ∀ j, j < xs.length * k → ∃ u, w.cell? ⟨b, off + j, none⟩ = some u ∧ u.oneCell' = true := by
      intro j hj
      have hi : j / k < xs.length := Nat.div_lt_of_lt_mul (by rw [Nat.mul_comm]; exact hj)
      obtain ⟨u, hu⟩ := T.has (hcell (j / k) hi) (j % k) (Nat.mod_lt _ hk)
      rw [Nat.add_assoc, Nat.div_add_mod'] at hu
      exact ⟨u, hu⟩
    obtain ⟨news, hnews⟩ : ∃ news, news = (List.range (xs.length * k)).map (fun j => (w.cell? ⟨b, off + j, none⟩).getD undef) := ⟨_, rfl⟩
    have hlen : news.length = xs.length * k := by rw [hnews]; simp
    have hget : ∀ j u, news[j]? = some u → j < xs.length * k ∧ w.cell? ⟨b, off + j, none⟩ = some u ∧ u.oneCell' = true := by
      intro j u hu
      have hj : j < xs.length * k := by
        rw [← hlen]
        exact (List.getElem?_eq_some_iff.1 hu).1
      obtain ⟨u', e, e1⟩ := hat j hj
      have : news[j]? = some u' := by rw [hnews]; simp [hj, e]
      rw [this] at hu
      injection hu with hu
      subst hu
      exact ⟨hj, e, e1⟩
    refine ⟨news, hlen, ?_, .inr ⟨_, cap, rfl, ?_⟩, ?_⟩
    · intro u hu
      obtain ⟨j, hj⟩ := List.getElem?_of_mem hu
      exact (hget j u hj).2.2
    · intro j u hu
      rw [addr_add]
      exact (hget j u hu).2.1
    · intro w' base e v' hext hown
      have hpos : 0 < xs.length := List.length_pos_iff.2 hx
      obtain ⟨g, cap', rfl, hg, hn, hm⟩ := ownsRow_some hown hpos
      refine ⟨_, cap', rfl, h2, hn, hm, fun _ => ⟨g, 0, rfl, fun i hi => ?_⟩⟩
      refine T.move (hcell i hi) hext (fun j u hj hu => ?_)
      have hlt : i * k + j < xs.length * k := by
        have : (i + 1) * k ≤ xs.length * k := Nat.mul_le_mul_right _ hi
        rw [Nat.succ_mul] at this
        omega
      rw [Nat.zero_add, hown.cellAt _ hlt, hnews]
      simp [hlt, ← Nat.add_assoc, hu]
theorem own_lower {w : World} {b b' : Nat} {e : TypeId} {size n : Nat} {v : Value} {xs : List Value} (h : w.ownsRow b e size v n xs) (hb : b' ≤ b) : w.ownsRow b' e size v n xs := by
  refine ⟨h.1, ?_⟩
  rcases h.2 with h | ⟨g, cap, cur, h1, h2, h3⟩
  · exact .inl h
  · exact .inr ⟨g, cap, cur, h1, Nat.le_trans hb h2, h3⟩
theorem own_shape {w : World} {b : Nat} {e : TypeId} {size n : Nat} {v : Value} {xs : List Value} (h : w.ownsRow b e size v n xs) : ∃ a cap, v = .slice a n cap := by
  rcases h.2 with ⟨rfl, rfl⟩ | ⟨g, cap, cur, h1, -⟩
  · exact ⟨_, _, rfl⟩
  · exact ⟨_, _, h1⟩
/-- A block of cells of one type. -/
def Typed (w : World) (g : Nat) (t : TypeId) : Prop := ∃ cur, w.heap[g]? = some (.cells cur t (0, 0))
theorem own_typed {w : World} {b : Nat} {e : TypeId} {size n : Nat} {v : Value} {xs : List Value} (h : w.ownsRow b e size v n xs) {g : Nat} (hg : v.ownBlock = some g) : Typed w g e := by
  rcases h.2 with ⟨rfl, _⟩ | ⟨g', cap, cur, rfl, _, h3, _⟩
  · simp [Value.ownBlock] at hg
  · simp only [Value.ownBlock, Option.some.injEq] at hg
    subst hg
    exact ⟨cur, h3⟩
theorem typed_ne {w : World} {g g' : Nat} {t t' : TypeId} (h : Typed w g t) (h' : Typed w g' t') (hne : t ≠ t') : g ≠ g' := by
  rintro rfl
  obtain ⟨c, h⟩ := h
  obtain ⟨c', h'⟩ := h'
  rw [h] at h'
  injection h' with h'
  injection h' with _ h'
  exact hne h'
/-- A row is kept where another's block has grown, the other of another type. -/
theorem own_apart {w w' : World} {b : Nat} {e : TypeId} {size n : Nat} {v : Value} {xs : List Value} (h : w.ownsRow b e size v n xs) {r : Option Nat} {t : TypeId} (hg : w.grownBy w' r) (hr : ∀ g, r = some g → Typed w g t) (hne : e ≠ t) : w'.ownsRow b e size v n xs := by
  refine h.kept hg ?_
  cases hv : v.ownBlock with
  | none => exact .inl rfl
  | some g =>
    right
    intro hq
    exact typed_ne (own_typed h hv) (hr g hq.symm) hne rfl
theorem typed_apart {w w' : World} {g : Nat} {e : TypeId} {cur : Array Value} (h : w.heap[g]? = some (.cells cur e (0, 0))) {r : Option Nat} {t : TypeId} (hg : w.grownBy w' r) (hr : ∀ g, r = some g → Typed w g t) (hne : e ≠ t) : w'.heap[g]? = some (.cells cur e (0, 0)) := by
  rw [hg.block g (lt_of_block h) (fun hq => typed_ne ⟨cur, h⟩ (hr g hq.symm) hne rfl)]
  exact h
section
variable {P : Program} (w : World)
/-- 'append' onto a row of the call's own. -/
theorem run_onto (base : Nat) (t ty e : TypeId) (z : Value) (size bytes : Nat) (ht : P.underlying t = some (.slice e)) (hinfo : (P.info? e).map (fun i => (i.zero, i.size, i.bytes)) = some (some z, size, bytes)) (hzs : z.cells.size = size) (hsz : 0 < size)
    (v : Value) (n : Nat) (xs : List Value) (hown : w.ownsRow base e size v n xs) (x : Value) (m : Nat) (news : List Value) (hx : Src w x m news) (hl : news.length = m * size) (h1 : ∀ u ∈ news, u.oneCell' = true)
    (h63 : n + m ≤ maxLen) (hbytes : (n + m) * bytes ≤ 140737488355328) (hbase : base ≤ w.heap.size) :
    ∃ v' w', (Builtin.append_ #[t, t] ty #[v, x]).run P w = .ok v' w' ∧ w'.ownsRow base e size v' (n + m) (xs ++ news) ∧ w.grownBy w' v.ownBlock := by
  obtain ⟨i, hi, hz, hsize, hby⟩ := info_parts hinfo
  rcases hx with ⟨c, rfl, rfl, rfl⟩ | ⟨ad, c, rfl, hc⟩
  · refine ⟨v, w, ?_, by simpa using hown, World.grownBy.refl w _⟩
    rcases hown.2 with ⟨rfl, rfl⟩ | ⟨g, cap, cur, rfl, _, _, hnc, _⟩
    · simp [Builtin.append_, run_underlying ht, sizeOf, typeInfo, hi, Builtin.lenOf, Builtin.firstCells]
    · simp [Builtin.append_, run_underlying ht, sizeOf, typeInfo, hi, Builtin.lenOf, Builtin.firstCells, hnc, storeCells]
  · obtain ⟨v', w', hrun, h2, h3, _⟩ := run_append_own (P := P) w base t ty e i z size bytes ht hi hz hsize hby hzs hsz v n xs hown ad m c news hl hc h1 h63 hbytes hbase
    exact ⟨v', w', hrun, h2, h3⟩
theorem wp_onto {o : Oper} {a : Act} {K : Act → World → Prop} {Q : Exit → Act → World → Prop} (s x : Operand) (t : TypeId)
    (ho : o.op = .call { callee := .builtin .append, args := #[s, x], argTypes := #[t, t] })
    (base : Nat) (e : TypeId) (z : Value) (size bytes : Nat) (ht : P.underlying t = some (.slice e)) (hinfo : (P.info? e).map (fun i => (i.zero, i.size, i.bytes)) = some (some z, size, bytes)) (hzs : z.cells.size = size) (hsz : 0 < size)
    (v : Value) (n : Nat) (xs : List Value) (hs : a.eval s = v) (hown : w.ownsRow base e size v n xs) (m : Nat) (news : List Value) (hx : Src w (a.eval x) m news) (hl : news.length = m * size) (h1 : ∀ u ∈ news, u.oneCell' = true)
    (h63 : n + m ≤ maxLen) (hbytes : (n + m) * bytes ≤ 140737488355328) (hbase : base ≤ w.heap.size)
    (h : ∀ v' w', w'.ownsRow base e size v' (n + m) (xs ++ news) → w.grownBy w' v.ownBlock → K (a.put o.dst v') w') : o.wp P a w K Q := by
  obtain ⟨v', w', hrun, h2, h3⟩ := run_onto (P := P) w base t o.type e z size bytes ht hinfo hzs hsz v n xs hown _ m news hx hl h1 h63 hbytes hbase
  unfold Oper.wp execOp
  simp only [ho, resolve, invoke, builtin, Sem.run_bind, Sem.run_pure, Result.andThen_ok, List.map_toArray, List.map_cons, List.map_nil, hs, hrun]
  exact h v' w' h2 h3
theorem wpList_onto {ops : Array Oper} {rest : List Oper} {o : Oper} {a : Act} {Q : Exit → Act → World → Prop} (hgd : o.guard = none) (s x : Operand) (t : TypeId)
    (ho : o.op = .call { callee := .builtin .append, args := #[s, x], argTypes := #[t, t] })
    (base : Nat) (e : TypeId) (z : Value) (size bytes : Nat) (ht : P.underlying t = some (.slice e)) (hinfo : (P.info? e).map (fun i => (i.zero, i.size, i.bytes)) = some (some z, size, bytes)) (hzs : z.cells.size = size) (hsz : 0 < size)
    (v : Value) (n : Nat) (xs : List Value) (hs : a.eval s = v) (hown : w.ownsRow base e size v n xs) (m : Nat) (news : List Value) (hx : Src w (a.eval x) m news) (hl : news.length = m * size) (h1 : ∀ u ∈ news, u.oneCell' = true)
    (h63 : n + m ≤ maxLen) (hbytes : (n + m) * bytes ≤ 140737488355328) (hbase : base ≤ w.heap.size)
    (h : ∀ v' w', w'.ownsRow base e size v' (n + m) (xs ++ news) → w.grownBy w' v.ownBlock → wpList P ops Q rest (a.put o.dst v') w') : wpList P ops Q (o :: rest) a w :=
  wpList_plain hgd fun _ hK => wp_onto w s x t ho base e z size bytes ht hinfo hzs hsz v n xs hs hown m news hx hl h1 h63 hbytes hbase fun v' w' h2 h3 => hK _ _ (h v' w' h2 h3)
theorem step_onto {ops : Array Oper} {o : Oper} {a : Act} {K : Act → World → Prop} {Q : Exit → Act → World → Prop} {E : Prop} (hgd : o.guard = none) (s x : Operand) (t : TypeId)
    (ho : o.op = .call { callee := .builtin .append, args := #[s, x], argTypes := #[t, t] })
    (base : Nat) (e : TypeId) (z : Value) (size bytes : Nat) (ht : P.underlying t = some (.slice e)) (hinfo : (P.info? e).map (fun i => (i.zero, i.size, i.bytes)) = some (some z, size, bytes)) (hzs : z.cells.size = size) (hsz : 0 < size)
    (v : Value) (n : Nat) (xs : List Value) (hs : a.eval s = v) (hown : w.ownsRow base e size v n xs) (m : Nat) (news : List Value) (hx : Src w (a.eval x) m news) (hl : news.length = m * size) (h1 : ∀ u ∈ news, u.oneCell' = true)
    (h63 : n + m ≤ maxLen) (hbytes : (n + m) * bytes ≤ 140737488355328) (hbase : base ≤ w.heap.size)
    (h : ∀ v' w', w'.ownsRow base e size v' (n + m) (xs ++ news) → w.grownBy w' v.ownBlock → K (a.put o.dst v') w') :
    if Region.wanted o (yielded ops a.tmps) = true then Oper.wp P o a w K Q else E := by
  rw [if_pos (by simp [Region.wanted, hgd])]
  exact wp_onto w s x t ho base e z size bytes ht hinfo hzs hsz v n xs hs hown m news hx hl h1 h63 hbytes hbase h
end
theorem own_lit (w : World) (e : TypeId) (size : Nat) : (w.alloc (.cells #[] e)).ownsRow w.heap.size e size (.slice (some ⟨w.heap.size, 0, none⟩) 0 0) 0 [] :=
  ⟨by simp, .inr ⟨w.heap.size, 0, #[], rfl, Nat.le_refl _, blk_new _ _, by omega, by simp [maxLen], by simp, by simp⟩⟩
section
variable {P : Program} {w : World}
/-- 'append(s, x)' of one element, whatever the row's length. -/
theorem append_elem {ops : Array Oper} {rest : List Oper} {o : Oper} {a : Act} {Q : Exit → Act → World → Prop} (hgd : o.guard = none) (s x : Operand) (t : TypeId)
    (ho : o.op = .call { callee := .builtin .append, args := #[s, x], argTypes := #[t, t] })
    (base : Nat) (e : TypeId) (z : Value) (size bytes : Nat) (ht : P.underlying t = some (.slice e)) (hinfo : (P.info? e).map (fun i => (i.zero, i.size, i.bytes)) = some (some z, size, bytes)) (hzs : z.cells.size = size) (hsz : 0 < size)
    (v : Value) (n : Nat) (xs : List Value) (hs : a.eval s = v) (hown : w.ownsRow base e size v n xs)
    (cs : List Value) (B : Nat) (hB : w.heap.size = B) (hx : a.eval x = .slice (some ⟨B, 0, none⟩) 1 1) (hl : cs.length = size) (h1 : cs.all (·.oneCell') = true)
    (h63 : n + 1 ≤ 9223372036854775807) (hbytes : (n + 1) * bytes ≤ 140737488355328) (hbase : base ≤ w.heap.size)
    (h : ∀ v' w', w'.ownsRow base e size v' (n + 1) (xs ++ cs) → Below base w w' → (w.alloc (.cells cs.toArray e)).grownBy w' v.ownBlock → wpList P ops Q rest (a.put o.dst v') w') : wpList P ops Q (o :: rest) a (w.alloc (.cells cs.toArray e)) := by
  subst hB
  obtain ⟨i, hi, hz, hsize, hby⟩ := info_parts hinfo
  have hnew := heap_alloc_new w (.cells cs.toArray e)
  refine wpList_append_own (w := w.alloc (.cells cs.toArray e)) hgd s x t ho base e i z size bytes ht hi hz hsize hby hzs hsz v n xs hs (hown.alloc _) ⟨w.heap.size, 0, none⟩ 1 1 cs hx (by omega) ?_ ?_ (by unfold maxLen; omega) hbytes (by simp; omega) ?_
  · intro j u hj
    rw [addr_add]
    unfold World.cell?
    simp only [hnew]
    simpa using hj
  · intro u hu
    exact List.all_eq_true.1 h1 u hu
  · intro v' w' ho' hg' _
    refine h v' w' ho' ?_ hg'
    exact ((Below.refl base w).alloc hbase _).grown hg' (by simp; omega) (fun k hk => (hown.lt k hk).1)
end
theorem flat_get {α : Type} (cells : α → List Value) (k : Nat) (hl : ∀ x, (cells x).length = k) : ∀ (xs : List α) (i : Nat) (h : i < xs.length) (j : Nat), j < k → (xs.flatMap cells)[i * k + j]? = (cells xs[i])[j]?
  | x :: r, 0, _, j, hj => by
    rw [List.flatMap_cons, List.getElem?_append_left (by rw [hl]; omega)]
    simp
  | x :: r, i + 1, h, j, hj => by
    have h' : i < r.length := by simpa using h
    rw [List.flatMap_cons, List.getElem?_append_right (by rw [hl, Nat.succ_mul]; omega), hl]
    rw [show (i + 1) * k + j - k = i * k + j by rw [Nat.succ_mul]; omega]
    exact flat_get cells k hl r i h' j hj
theorem flat_len {α : Type} (cells : α → List Value) (k : Nat) (hl : ∀ x, (cells x).length = k) (xs : List α) : (xs.flatMap cells).length = xs.length * k := by
  induction xs with
  | nil => simp
  | cons x r ih => rw [List.flatMap_cons, List.length_append, ih, hl, List.length_cons, Nat.succ_mul, Nat.add_comm]
/-- The cells tell the element. -/
structure Flat {α : Type} (P : World → Nat → Nat → α → Prop) (k : Nat) (cells : α → List Value) : Prop where
  pos : 0 < k
  len : ∀ x, (cells x).length = k
  one : ∀ x, ∀ u ∈ cells x, u.oneCell' = true
  of : ∀ W b o x, (∀ j u, (cells x)[j]? = some u → W.cell? ⟨b, o + j, none⟩ = some u) → P W b o x
  cell : ∀ W b o x, P W b o x → ∀ j u, (cells x)[j]? = some u → W.cell? ⟨b, o + j, none⟩ = some u
theorem Flat.slice {α : Type} {P : World → Nat → Nat → α → Prop} {k : Nat} {cells : α → List Value} (F : Flat P k cells) {B base : Nat} {e : TypeId} {W : World} {v : Value} {xs : List α} (h : W.ownsRow base e k v xs.length (xs.flatMap cells)) (hB : xs.length * B ≤ 140737488351232) : SliceAt P k B W v xs := by
  by_cases hx : xs = []
  · subst hx
    rcases h.2 with ⟨rfl, _⟩ | ⟨g, cap', cur, rfl, _, _, hn, hm, _⟩
    · exact slice0 _ _ _ _
    · exact ⟨_, cap', rfl, by simp, hn, hm, fun h => absurd rfl h⟩
  · have hpos : 0 < xs.length := List.length_pos_iff.2 hx
    obtain ⟨g, cap', rfl, hg, hn, hm⟩ := ownsRow_some h hpos
    refine ⟨_, cap', rfl, hB, hn, hm, fun _ => ⟨g, 0, rfl, fun i hi => F.of _ _ _ _ (fun j u hu => ?_)⟩⟩
    have hj : j < k := by rw [← F.len xs[i]]; exact (List.getElem?_eq_some_iff.1 hu).1
    have hlt : i * k + j < xs.length * k := by
      have : (i + 1) * k ≤ xs.length * k := Nat.mul_le_mul_right _ hi
      rw [Nat.succ_mul] at this
      omega
    rw [Nat.zero_add, h.cellAt _ hlt, flat_get cells k F.len xs i hi j hj]
    exact hu
theorem Flat.told {α : Type} {P : World → Nat → Nat → α → Prop} {k : Nat} {cells : α → List Value} (F : Flat P k cells) : Told P k where
  has {w b o x} h j hj := by
    have hlt : j < (cells x).length := by rw [F.len]; exact hj
    exact ⟨_, F.cell _ _ _ _ h j _ (List.getElem?_eq_getElem hlt), F.one _ _ (List.getElem_mem hlt)⟩
  move {w w' b o b' o' x} h _ hm := F.of _ _ _ _ (fun j u hu => by
    have hj : j < k := by rw [← F.len x]; exact (List.getElem?_eq_some_iff.1 hu).1
    exact hm j u hj (F.cell _ _ _ _ h j u hu))
/-- A slice's cells. -/
theorem Flat.src {α : Type} {P : World → Nat → Nat → α → Prop} {k : Nat} {cells : α → List Value} (F : Flat P k cells) {B : Nat} {W : World} {v : Value} {xs : List α} (h : SliceAt P k B W v xs) : Src W v xs.length (xs.flatMap cells) := by
  obtain ⟨a, cap, rfl, h2, h3, h4, h5⟩ := h
  by_cases hx : xs = []
  · subst hx
    rcases a with _ | ad
    · exact .inl ⟨cap, rfl, rfl, rfl⟩
    · exact .inr ⟨ad, cap, rfl, by simp⟩
  · obtain ⟨b, off, rfl, hc⟩ := h5 hx
    refine .inr ⟨_, cap, rfl, fun j u hu => ?_⟩
    have hj : j < xs.length * k := by rw [← flat_len cells k F.len xs]; exact (List.getElem?_eq_some_iff.1 hu).1
    have hi : j / k < xs.length := Nat.div_lt_of_lt_mul (by rw [Nat.mul_comm]; exact hj)
    have hm := Nat.mod_lt j F.pos
    have he : j / k * k + j % k = j := Nat.div_add_mod' j k
    rw [addr_add]
    have h1 := flat_get cells k F.len xs (j / k) hi (j % k) hm
    rw [he, hu] at h1
    have h2 := F.cell _ _ _ _ (hc (j / k) hi) (j % k) u h1.symm
    rwa [Nat.add_assoc, he] at h2
theorem flat_one {α : Type} {P : World → Nat → Nat → α → Prop} {k : Nat} {cells : α → List Value} (F : Flat P k cells) (xs : List α) : ∀ u ∈ xs.flatMap cells, u.oneCell' = true := by
  intro u hu
  obtain ⟨x, -, hx⟩ := List.mem_flatMap.1 hu
  exact F.one x u hx
theorem filter_snoc {α : Type} (p : α → Bool) (xs : List α) (k : Nat) (h : k < xs.length) : (xs.take (k + 1)).filter p = (xs.take k).filter p ++ (if p xs[k] then [xs[k]] else []) := by
  rw [List.take_succ_eq_append_getElem h, List.filter_append]
  congr 1
  cases hp : p xs[k] <;> simp [hp]
theorem flatInt : Flat IntAt 1 (fun x => [.int .i64 x]) where
  pos := by decide
  len _ := rfl
  one x u hu := by simp at hu; subst hu; rfl
  of W b o x h := h 0 _ rfl
  cell W b o x h j u hu := by
    match j, hu with
    | 0, hu => injection hu with hu; subst hu; exact h
theorem own_set {W : World} {B : Nat} {e : TypeId} {size n cap g : Nat} {xs : List Value} (h : W.ownsRow B e size (.slice (some ⟨g, 0, none⟩) n cap) n xs) (j : Nat) (u : Value) : (W.setCell ⟨g, j, none⟩ u).ownsRow B e size (.slice (some ⟨g, 0, none⟩) n cap) n (xs.set j u) := by
  refine ⟨by rw [List.length_set]; exact h.1, ?_⟩
  rcases h.2 with ⟨h1, -⟩ | ⟨g', cap', cur, h1, h2, h3, h4, h5, h6, h7⟩
  · cases h1
  · injection h1 with h1 _ h1'
    injection h1 with h1
    injection h1 with h1
    subst h1; subst h1'
    refine .inr ⟨g, cap, cur.setIfInBounds j u, rfl, h2, blk_set h3 j u, h4, h5, by simpa using h6, ?_⟩
    rw [Array.toList_setIfInBounds, List.take_set, h7]
end Go.Proofs.Ytkjjfidbmkpljaa
