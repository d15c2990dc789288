/- Copying a slice onto a row of the call's own. -/
import Derived.Test.YtjhhncahlijohaaPlain
import Derived.Test.YtjhhncahlijohaaRow
import Derived.Laws.OwnMore
import Derived.Deep.RegionLaw
import Derived.Deep.RegionHeld3
import Derived.Deep.DeepCutAuto
set_option linter.unusedVariables false
set_option linter.unusedSimpArgs false
namespace Go.Proofs.Ytjhhncahlijohaa
open Go.RowKit

/-- What is told of an element by its k cells alone (and by what they lead to). -/
structure Told {α : Type} (P : World → Nat → Nat → α → Prop) (k : Nat) : Prop where
  has : ∀ {w : World} {b o : Nat} {x : α}, P w b o x → ∀ j, j < k → ∃ u, w.cell? ⟨b, o + j, none⟩ = some u ∧ u.oneCell' = true
  move : ∀ {w w' : World} {b o b' o' : Nat} {x : α}, P w b o x → Ext w w' → (∀ j u, j < k → w.cell? ⟨b, o + j, none⟩ = some u → w'.cell? ⟨b', o' + j, none⟩ = some u) → P w' b' o' x
theorem IntAt.has {w : World} {b o : Nat} {x : Int} (h : IntAt w b o x) : ∃ u, w.cell? ⟨b, o, none⟩ = some u ∧ u.oneCell' = true := ⟨_, h, rfl⟩
theorem lt6 {j : Nat} (h : j < 6) : j = 0 ∨ j = 1 ∨ j = 2 ∨ j = 3 ∨ j = 4 ∨ j = 5 := by omega
theorem told_int : Told IntAt 1 where
  has h j hj := by
    obtain rfl : j = 0 := by omega
    exact IntAt.has h
  move h _ hm := hm 0 _ (by decide) h
theorem told_task : Told TaskAt 6 where
  has h j hj := by
    obtain ⟨h0, h1, h2, h3, h4, h5⟩ := h
    rcases lt6 hj with rfl | rfl | rfl | rfl | rfl | rfl
    · exact IntAt.has h0
    · exact IntAt.has h1
    · exact IntAt.has h2
    · exact IntAt.has h3
    · exact IntAt.has h4
    · exact IntAt.has h5
  move h _ hm := by
    obtain ⟨h0, h1, h2, h3, h4, h5⟩ := h
    exact ⟨hm 0 _ (by decide) h0, hm 1 _ (by decide) h1, hm 2 _ (by decide) h2, hm 3 _ (by decide) h3, hm 4 _ (by decide) h4, hm 5 _ (by decide) h5⟩
theorem told_instr : Told InstrAt 2 where
  has h j hj := by
    obtain ⟨h0, h1⟩ := h
    rcases (show j = 0 ∨ j = 1 by omega) with rfl | rfl
    · exact IntAt.has h0
    · exact IntAt.has h1
  move h _ hm := by
    obtain ⟨h0, h1⟩ := h
    exact ⟨hm 0 _ (by decide) h0, hm 1 _ (by decide) h1⟩
theorem told_window : Told WindowAt 3 where
  has h j hj := by
    obtain ⟨h0, h1, h2⟩ := h
    rcases (show j = 0 ∨ j = 1 ∨ j = 2 by omega) with rfl | rfl | rfl
    · exact IntAt.has h0
    · exact IntAt.has h1
    · exact IntAt.has h2
  move h _ hm := by
    obtain ⟨h0, h1, h2⟩ := h
    exact ⟨hm 0 _ (by decide) h0, hm 1 _ (by decide) h1, hm 2 _ (by decide) h2⟩
theorem told_port : Told PortAt 4 where
  has h j hj := by
    obtain ⟨h0, h1, h2, h3⟩ := h
    rcases (show j = 0 ∨ j = 1 ∨ j = 2 ∨ j = 3 by omega) with rfl | rfl | rfl | rfl
    · exact IntAt.has h0
    · exact IntAt.has h1
    · exact IntAt.has h2
    · exact IntAt.has h3
  move h _ hm := by
    obtain ⟨h0, h1, h2, h3⟩ := h
    exact ⟨hm 0 _ (by decide) h0, hm 1 _ (by decide) h1, hm 2 _ (by decide) h2, hm 3 _ (by decide) h3⟩
/-- What an append reads: nothing, or m elements' cells from an address on. -/
def Src (w : World) (x : Value) (m : Nat) (news : List Value) : Prop :=
  (∃ c, x = .slice none m c ∧ m = 0 ∧ news = []) ∨ ∃ ad c, x = .slice (some ad) m c ∧ ∀ j u, news[j]? = some u → w.cell? (ad.add j) = some u
theorem SliceAt.cells {α : Type} {P : World → Nat → Nat → α → Prop} {k B : Nat} (T : Told P k) (hk : 0 < k) {w : World} {v : Value} {xs : List α} (h : SliceAt P k B w v xs) :
    ∃ news : List Value, news.length = xs.length * k ∧ (∀ u ∈ news, u.oneCell' = true) ∧ Src w v xs.length news ∧
      ∀ (w' : World) (base : Nat) (e : TypeId) (v' : Value), Ext w w' → w'.ownsRow base e k v' xs.length news → SliceAt P k B w' v' xs := by
  obtain ⟨a, cap, rfl, h2, h3, h4, h5⟩ := h
  by_cases hx : xs = []
  · subst hx
    refine ⟨[], by simp, by simp, ?_, ?_⟩
    · rcases a with _ | ad
      · exact .inl ⟨cap, rfl, rfl, rfl⟩
      · exact .inr ⟨ad, cap, rfl, by simp⟩
    · intro w' base e v' _ hown
      rcases hown.2 with ⟨rfl, _⟩ | ⟨g, cap', cur, rfl, _, _, hn, hm, _⟩
      · exact slice0 _ _ _ _
      · exact ⟨_, cap', rfl, by simp, hn, hm, fun h => absurd rfl h⟩
  · obtain ⟨b, off, rfl, hcell⟩ := h5 hx
    have hat : ∀ j, j < xs.length * k → ∃ u, w.cell? ⟨b, off + j, none⟩ = some u ∧ u.oneCell' = true := by
      intro j hj
      have hi : j / k < xs.length := Nat.div_lt_of_lt_mul (by rw [Nat.mul_comm]; exact hj)
      obtain ⟨u, hu⟩ := T.has (hcell (j / k) hi) (j % k) (Nat.mod_lt _ hk)
      rw [Nat.add_assoc, Nat.div_add_mod'] at hu
      exact ⟨u, hu⟩
    obtain ⟨news, hnews⟩ : ∃ news, news = (List.range (xs.length * k)).map (fun j => (w.cell? ⟨b, off + j, none⟩).getD undef) := ⟨_, rfl⟩
    have hlen : news.length = xs.length * k := by rw [hnews]; simp
    have hget : ∀ j u, news[j]? = some u → j < xs.length * k ∧ w.cell? ⟨b, off + j, none⟩ = some u ∧ u.oneCell' = true := by
      intro j u hu
      have hj : j < xs.length * k := by
        rw [← hlen]
        exact (List.getElem?_eq_some_iff.1 hu).1
      obtain ⟨u', e, e1⟩ := hat j hj
      have : news[j]? = some u' := by rw [hnews]; simp [hj, e]
      rw [this] at hu
      injection hu with hu
      subst hu
      exact ⟨hj, e, e1⟩
    refine ⟨news, hlen, ?_, .inr ⟨_, cap, rfl, ?_⟩, ?_⟩
    · intro u hu
      obtain ⟨j, hj⟩ := List.getElem?_of_mem hu
      exact (hget j u hj).2.2
    · intro j u hu
      rw [addr_add]
      exact (hget j u hu).2.1
    · intro w' base e v' hext hown
      have hpos : 0 < xs.length := List.length_pos_iff.2 hx
      obtain ⟨g, cap', rfl, hg, hn, hm⟩ := ownsRow_some hown hpos
      refine ⟨_, cap', rfl, h2, hn, hm, fun _ => ⟨g, 0, rfl, fun i hi => ?_⟩⟩
      refine T.move (hcell i hi) hext (fun j u hj hu => ?_)
      have hlt : i * k + j < xs.length * k := by
        have : (i + 1) * k ≤ xs.length * k := Nat.mul_le_mul_right _ hi
        rw [Nat.succ_mul] at this
        omega
      rw [Nat.zero_add, hown.cellAt _ hlt, hnews]
      simp [hlt, ← Nat.add_assoc, hu]
theorem own_lower {w : World} {b b' : Nat} {e : TypeId} {size n : Nat} {v : Value} {xs : List Value} (h : w.ownsRow b e size v n xs) (hb : b' ≤ b) : w.ownsRow b' e size v n xs := by
  refine ⟨h.1, ?_⟩
  rcases h.2 with h | ⟨g, cap, cur, h1, h2, h3⟩
  · exact .inl h
  · exact .inr ⟨g, cap, cur, h1, Nat.le_trans hb h2, h3⟩
theorem own_shape {w : World} {b : Nat} {e : TypeId} {size n : Nat} {v : Value} {xs : List Value} (h : w.ownsRow b e size v n xs) : ∃ a cap, v = .slice a n cap := by
  rcases h.2 with ⟨rfl, rfl⟩ | ⟨g, cap, cur, h1, -⟩
  · exact ⟨_, _, rfl⟩
  · exact ⟨_, _, h1⟩
/-- A block of cells of one type. -/
def Typed (w : World) (g : Nat) (t : TypeId) : Prop := ∃ cur, w.heap[g]? = some (.cells cur t (0, 0))
theorem own_typed {w : World} {b : Nat} {e : TypeId} {size n : Nat} {v : Value} {xs : List Value} (h : w.ownsRow b e size v n xs) {g : Nat} (hg : v.ownBlock = some g) : Typed w g e := by
  rcases h.2 with ⟨rfl, _⟩ | ⟨g', cap, cur, rfl, _, h3, _⟩
  · simp [Value.ownBlock] at hg
  · simp only [Value.ownBlock, Option.some.injEq] at hg
    subst hg
    exact ⟨cur, h3⟩
theorem typed_ne {w : World} {g g' : Nat} {t t' : TypeId} (h : Typed w g t) (h' : Typed w g' t') (hne : t ≠ t') : g ≠ g' := by
  rintro rfl
  obtain ⟨c, h⟩ := h
  obtain ⟨c', h'⟩ := h'
  rw [h] at h'
  injection h' with h'
  injection h' with _ h'
  exact hne h'
/-- A row is kept where another's block has grown, the other of another type. -/
theorem own_apart {w w' : World} {b : Nat} {e : TypeId} {size n : Nat} {v : Value} {xs : List Value} (h : w.ownsRow b e size v n xs) {r : Option Nat} {t : TypeId} (hg : w.grownBy w' r) (hr : ∀ g, r = some g → Typed w g t) (hne : e ≠ t) : w'.ownsRow b e size v n xs := by
  refine h.kept hg ?_
  cases hv : v.ownBlock with
  | none => exact .inl rfl
  | some g =>
    right
    intro hq
    exact typed_ne (own_typed h hv) (hr g hq.symm) hne rfl
theorem typed_apart {w w' : World} {g : Nat} {e : TypeId} {cur : Array Value} (h : w.heap[g]? = some (.cells cur e (0, 0))) {r : Option Nat} {t : TypeId} (hg : w.grownBy w' r) (hr : ∀ g, r = some g → Typed w g t) (hne : e ≠ t) : w'.heap[g]? = some (.cells cur e (0, 0)) := by
  rw [hg.block g (lt_of_block h) (fun hq => typed_ne ⟨cur, h⟩ (hr g hq.symm) hne rfl)]
  exact h
section
variable {P : Program} (w : World)
/-- 'append' onto a row of the call's own. -/
theorem run_onto (base : Nat) (t ty e : TypeId) (z : Value) (size bytes : Nat) (ht : P.underlying t = some (.slice e)) (hinfo : (P.info? e).map (fun i => (i.zero, i.size, i.bytes)) = some (some z, size, bytes)) (hzs : z.cells.size = size) (hsz : 0 < size)
    (v : Value) (n : Nat) (xs : List Value) (hown : w.ownsRow base e size v n xs) (x : Value) (m : Nat) (news : List Value) (hx : Src w x m news) (hl : news.length = m * size) (h1 : ∀ u ∈ news, u.oneCell' = true)
    (h63 : n + m ≤ maxLen) (hbytes : (n + m) * bytes ≤ 140737488355328) (hbase : base ≤ w.heap.size) :
    ∃ v' w', (Builtin.append_ #[t, t] ty #[v, x]).run P w = .ok v' w' ∧ w'.ownsRow base e size v' (n + m) (xs ++ news) ∧ w.grownBy w' v.ownBlock := by
  obtain ⟨i, hi, hz, hsize, hby⟩ := info_parts hinfo
  rcases hx with ⟨c, rfl, rfl, rfl⟩ | ⟨ad, c, rfl, hc⟩
  · refine ⟨v, w, ?_, by simpa using hown, World.grownBy.refl w _⟩
    rcases hown.2 with ⟨rfl, rfl⟩ | ⟨g, cap, cur, rfl, _, _, hnc, _⟩
    · simp [Builtin.append_, run_underlying ht, sizeOf, typeInfo, hi, Builtin.lenOf, Builtin.firstCells]
    · simp [Builtin.append_, run_underlying ht, sizeOf, typeInfo, hi, Builtin.lenOf, Builtin.firstCells, hnc, storeCells]
  · obtain ⟨v', w', hrun, h2, h3, _⟩ := run_append_own (P := P) w base t ty e i z size bytes ht hi hz hsize hby hzs hsz v n xs hown ad m c news hl hc h1 h63 hbytes hbase
    exact ⟨v', w', hrun, h2, h3⟩
theorem wp_onto {o : Oper} {a : Act} {K : Act → World → Prop} {Q : Exit → Act → World → Prop} (s x : Operand) (t : TypeId)
    (ho : o.op = .call { callee := .builtin .append, args := #[s, x], argTypes := #[t, t] })
    (base : Nat) (e : TypeId) (z : Value) (size bytes : Nat) (ht : P.underlying t = some (.slice e)) (hinfo : (P.info? e).map (fun i => (i.zero, i.size, i.bytes)) = some (some z, size, bytes)) (hzs : z.cells.size = size) (hsz : 0 < size)
    (v : Value) (n : Nat) (xs : List Value) (hs : a.eval s = v) (hown : w.ownsRow base e size v n xs) (m : Nat) (news : List Value) (hx : Src w (a.eval x) m news) (hl : news.length = m * size) (h1 : ∀ u ∈ news, u.oneCell' = true)
    (h63 : n + m ≤ maxLen) (hbytes : (n + m) * bytes ≤ 140737488355328) (hbase : base ≤ w.heap.size)
    (h : ∀ v' w', w'.ownsRow base e size v' (n + m) (xs ++ news) → w.grownBy w' v.ownBlock → K (a.put o.dst v') w') : o.wp P a w K Q := by
  obtain ⟨v', w', hrun, h2, h3⟩ := run_onto (P := P) w base t o.type e z size bytes ht hinfo hzs hsz v n xs hown _ m news hx hl h1 h63 hbytes hbase
  unfold Oper.wp execOp
  simp only [ho, resolve, invoke, builtin, Sem.run_bind, Sem.run_pure, Result.andThen_ok, List.map_toArray, List.map_cons, List.map_nil, hs, hrun]
  exact h v' w' h2 h3
theorem wpList_onto {ops : Array Oper} {rest : List Oper} {o : Oper} {a : Act} {Q : Exit → Act → World → Prop} (hgd : o.guard = none) (s x : Operand) (t : TypeId)
    (ho : o.op = .call { callee := .builtin .append, args := #[s, x], argTypes := #[t, t] })
    (base : Nat) (e : TypeId) (z : Value) (size bytes : Nat) (ht : P.underlying t = some (.slice e)) (hinfo : (P.info? e).map (fun i => (i.zero, i.size, i.bytes)) = some (some z, size, bytes)) (hzs : z.cells.size = size) (hsz : 0 < size)
    (v : Value) (n : Nat) (xs : List Value) (hs : a.eval s = v) (hown : w.ownsRow base e size v n xs) (m : Nat) (news : List Value) (hx : Src w (a.eval x) m news) (hl : news.length = m * size) (h1 : ∀ u ∈ news, u.oneCell' = true)
    (h63 : n + m ≤ maxLen) (hbytes : (n + m) * bytes ≤ 140737488355328) (hbase : base ≤ w.heap.size)
    (h : ∀ v' w', w'.ownsRow base e size v' (n + m) (xs ++ news) → w.grownBy w' v.ownBlock → wpList P ops Q rest (a.put o.dst v') w') : wpList P ops Q (o :: rest) a w :=
  wpList_plain hgd fun _ hK => wp_onto w s x t ho base e z size bytes ht hinfo hzs hsz v n xs hs hown m news hx hl h1 h63 hbytes hbase fun v' w' h2 h3 => hK _ _ (h v' w' h2 h3)
theorem step_onto {ops : Array Oper} {o : Oper} {a : Act} {K : Act → World → Prop} {Q : Exit → Act → World → Prop} {E : Prop} (hgd : o.guard = none) (s x : Operand) (t : TypeId)
    (ho : o.op = .call { callee := .builtin .append, args := #[s, x], argTypes := #[t, t] })
    (base : Nat) (e : TypeId) (z : Value) (size bytes : Nat) (ht : P.underlying t = some (.slice e)) (hinfo : (P.info? e).map (fun i => (i.zero, i.size, i.bytes)) = some (some z, size, bytes)) (hzs : z.cells.size = size) (hsz : 0 < size)
    (v : Value) (n : Nat) (xs : List Value) (hs : a.eval s = v) (hown : w.ownsRow base e size v n xs) (m : Nat) (news : List Value) (hx : Src w (a.eval x) m news) (hl : news.length = m * size) (h1 : ∀ u ∈ news, u.oneCell' = true)
    (h63 : n + m ≤ maxLen) (hbytes : (n + m) * bytes ≤ 140737488355328) (hbase : base ≤ w.heap.size)
    (h : ∀ v' w', w'.ownsRow base e size v' (n + m) (xs ++ news) → w.grownBy w' v.ownBlock → K (a.put o.dst v') w') :
    if Region.wanted o (yielded ops a.tmps) = true then Oper.wp P o a w K Q else E := by
  rw [if_pos (by simp [Region.wanted, hgd])]
  exact wp_onto w s x t ho base e z size bytes ht hinfo hzs hsz v n xs hs hown m news hx hl h1 h63 hbytes hbase h
end
theorem own_lit (w : World) (e : TypeId) (size : Nat) : (w.alloc (.cells #[] e)).ownsRow w.heap.size e size (.slice (some ⟨w.heap.size, 0, none⟩) 0 0) 0 [] :=
  ⟨by simp, .inr ⟨w.heap.size, 0, #[], rfl, Nat.le_refl _, blk_new _ _, by omega, by simp [maxLen], by simp, by simp⟩⟩
end Go.Proofs.Ytjhhncahlijohaa
