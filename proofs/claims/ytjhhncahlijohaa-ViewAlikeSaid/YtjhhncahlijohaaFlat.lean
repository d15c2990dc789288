/- Rows of the call's own whose cells are known element by element. -/
import Derived.Test.YtjhhncahlijohaaCopy1
set_option linter.unusedVariables false
set_option linter.unusedSimpArgs false
namespace Go.Proofs.Ytjhhncahlijohaa
open Go.RowKit

theorem flat_get {α : Type} (cells : α → List Value) (k : Nat) (hl : ∀ x, (cells x).length = k) : ∀ (xs : List α) (i : Nat) (h : i < xs.length) (j : Nat), j < k → (xs.flatMap cells)[i * k + j]? = (cells xs[i])[j]?
  | x :: r, 0, _, j, hj => by
    rw [List.flatMap_cons, List.getElem?_append_left (by rw [hl]; omega)]
    simp
  | x :: r, i + 1, h, j, hj => by
    have h' : i < r.length := by simpa using h
    rw [List.flatMap_cons, List.getElem?_append_right (by rw [hl, Nat.succ_mul]; omega), hl]
    rw [show (i + 1) * k + j - k = i * k + j by rw [Nat.succ_mul]; omega]
    exact flat_get cells k hl r i h' j hj
theorem flat_len {α : Type} (cells : α → List Value) (k : Nat) (hl : ∀ x, (cells x).length = k) (xs : List α) : (xs.flatMap cells).length = xs.length * k := by
  induction xs with
  | nil => simp
  | cons x r ih => rw [List.flatMap_cons, List.length_append, ih, hl, List.length_cons, Nat.succ_mul, Nat.add_comm]
/-- The cells tell the element. -/
structure Flat {α : Type} (P : World → Nat → Nat → α → Prop) (k : Nat) (cells : α → List Value) : Prop where
  pos : 0 < k
  len : ∀ x, (cells x).length = k
  one : ∀ x, ∀ u ∈ cells x, u.oneCell' = true
  of : ∀ W b o x, (∀ j u, (cells x)[j]? = some u → W.cell? ⟨b, o + j, none⟩ = some u) → P W b o x
  cell : ∀ W b o x, P W b o x → ∀ j u, (cells x)[j]? = some u → W.cell? ⟨b, o + j, none⟩ = some u
theorem Flat.slice {α : Type} {P : World → Nat → Nat → α → Prop} {k : Nat} {cells : α → List Value} (F : Flat P k cells) {B base : Nat} {e : TypeId} {W : World} {v : Value} {xs : List α} (h : W.ownsRow base e k v xs.length (xs.flatMap cells)) (hB : xs.length * B ≤ 140737488351232) : SliceAt P k B W v xs := by
  by_cases hx : xs = []
  · subst hx
    rcases h.2 with ⟨rfl, _⟩ | ⟨g, cap', cur, rfl, _, _, hn, hm, _⟩
    · exact slice0 _ _ _ _
    · exact ⟨_, cap', rfl, by simp, hn, hm, fun h => absurd rfl h⟩
  · have hpos : 0 < xs.length := List.length_pos_iff.2 hx
    obtain ⟨g, cap', rfl, hg, hn, hm⟩ := ownsRow_some h hpos
    refine ⟨_, cap', rfl, hB, hn, hm, fun _ => ⟨g, 0, rfl, fun i hi => F.of _ _ _ _ (fun j u hu => ?_)⟩⟩
    have hj : j < k := by rw [← F.len xs[i]]; exact (List.getElem?_eq_some_iff.1 hu).1
    have hlt : i * k + j < xs.length * k := by
      have : (i + 1) * k ≤ xs.length * k := Nat.mul_le_mul_right _ hi
      rw [Nat.succ_mul] at this
      omega
    rw [Nat.zero_add, h.cellAt _ hlt, flat_get cells k F.len xs i hi j hj]
    exact hu
theorem Flat.told {α : Type} {P : World → Nat → Nat → α → Prop} {k : Nat} {cells : α → List Value} (F : Flat P k cells) : Told P k where
  has {w b o x} h j hj := by
    have hlt : j < (cells x).length := by rw [F.len]; exact hj
    exact ⟨_, F.cell _ _ _ _ h j _ (List.getElem?_eq_getElem hlt), F.one _ _ (List.getElem_mem hlt)⟩
  move {w w' b o b' o' x} h _ hm := F.of _ _ _ _ (fun j u hu => by
    have hj : j < k := by rw [← F.len x]; exact (List.getElem?_eq_some_iff.1 hu).1
    exact hm j u hj (F.cell _ _ _ _ h j u hu))
/-- A slice's cells. -/
theorem Flat.src {α : Type} {P : World → Nat → Nat → α → Prop} {k : Nat} {cells : α → List Value} (F : Flat P k cells) {B : Nat} {W : World} {v : Value} {xs : List α} (h : SliceAt P k B W v xs) : Src W v xs.length (xs.flatMap cells) := by
  obtain ⟨a, cap, rfl, h2, h3, h4, h5⟩ := h
  by_cases hx : xs = []
  · subst hx
    rcases a with _ | ad
    · exact .inl ⟨cap, rfl, rfl, rfl⟩
    · exact .inr ⟨ad, cap, rfl, by simp⟩
  · obtain ⟨b, off, rfl, hc⟩ := h5 hx
    refine .inr ⟨_, cap, rfl, fun j u hu => ?_⟩
    have hj : j < xs.length * k := by rw [← flat_len cells k F.len xs]; exact (List.getElem?_eq_some_iff.1 hu).1
    have hi : j / k < xs.length := Nat.div_lt_of_lt_mul (by rw [Nat.mul_comm]; exact hj)
    have hm := Nat.mod_lt j F.pos
    have he : j / k * k + j % k = j := Nat.div_add_mod' j k
    rw [addr_add]
    have h1 := flat_get cells k F.len xs (j / k) hi (j % k) hm
    rw [he, hu] at h1
    have h2 := F.cell _ _ _ _ (hc (j / k) hi) (j % k) u h1.symm
    rwa [Nat.add_assoc, he] at h2
theorem flat_one {α : Type} {P : World → Nat → Nat → α → Prop} {k : Nat} {cells : α → List Value} (F : Flat P k cells) (xs : List α) : ∀ u ∈ xs.flatMap cells, u.oneCell' = true := by
  intro u hu
  obtain ⟨x, -, hx⟩ := List.mem_flatMap.1 hu
  exact F.one x u hx
theorem filter_snoc {α : Type} (p : α → Bool) (xs : List α) (k : Nat) (h : k < xs.length) : (xs.take (k + 1)).filter p = (xs.take k).filter p ++ (if p xs[k] then [xs[k]] else []) := by
  rw [List.take_succ_eq_append_getElem h, List.filter_append]
  congr 1
  cases hp : p xs[k] <;> simp [hp]
theorem flatInt : Flat IntAt 1 (fun x => [.int .i64 x]) where
  pos := by decide
  len _ := rfl
  one x u hu := by simp at hu; subst hu; rfl
  of W b o x h := h 0 _ rfl
  cell W b o x h j u hu := by
    match j, hu with
    | 0, hu => injection hu with hu; subst hu; exact h
def taskCells (x : Task) : List Value := [.int .i64 x.kind, .int .i64 x.period, .int .i64 x.deadline, .int .i64 x.clow, .int .i64 x.chigh, .int .i64 x.prio]
def instrCells (x : Instr) : List Value := [.int .i64 x.op, .int .i64 x.arg]
def windowCells (x : Window) : List Value := [.int .i64 x.from_, .int .i64 x.to_, .int .i64 x.part]
def portCells (x : Port) : List Value := [.int .i64 x.kind, .int .i64 x.from_, .int .i64 x.to_, .int .i64 x.size]
theorem flatTask : Flat TaskAt 6 taskCells where
  pos := by decide
  len _ := rfl
  one x u hu := by simp [taskCells] at hu; rcases hu with rfl | rfl | rfl | rfl | rfl | rfl <;> rfl
  of W b o x h := ⟨h 0 _ rfl, h 1 _ rfl, h 2 _ rfl, h 3 _ rfl, h 4 _ rfl, h 5 _ rfl⟩
  cell W b o x h j u hu := by
    obtain ⟨h0, h1, h2, h3, h4, h5⟩ := h
    match j, hu with
    | 0, hu => injection hu with hu; subst hu; exact h0
    | 1, hu => injection hu with hu; subst hu; exact h1
    | 2, hu => injection hu with hu; subst hu; exact h2
    | 3, hu => injection hu with hu; subst hu; exact h3
    | 4, hu => injection hu with hu; subst hu; exact h4
    | 5, hu => injection hu with hu; subst hu; exact h5
theorem flatInstr : Flat InstrAt 2 instrCells where
  pos := by decide
  len _ := rfl
  one x u hu := by simp [instrCells] at hu; rcases hu with rfl | rfl <;> rfl
  of W b o x h := ⟨h 0 _ rfl, h 1 _ rfl⟩
  cell W b o x h j u hu := by
    obtain ⟨h0, h1⟩ := h
    match j, hu with
    | 0, hu => injection hu with hu; subst hu; exact h0
    | 1, hu => injection hu with hu; subst hu; exact h1
theorem flatWindow : Flat WindowAt 3 windowCells where
  pos := by decide
  len _ := rfl
  one x u hu := by simp [windowCells] at hu; rcases hu with rfl | rfl | rfl <;> rfl
  of W b o x h := ⟨h 0 _ rfl, h 1 _ rfl, h 2 _ rfl⟩
  cell W b o x h j u hu := by
    obtain ⟨h0, h1, h2⟩ := h
    match j, hu with
    | 0, hu => injection hu with hu; subst hu; exact h0
    | 1, hu => injection hu with hu; subst hu; exact h1
    | 2, hu => injection hu with hu; subst hu; exact h2
theorem flatPort : Flat PortAt 4 portCells where
  pos := by decide
  len _ := rfl
  one x u hu := by simp [portCells] at hu; rcases hu with rfl | rfl | rfl | rfl <;> rfl
  of W b o x h := ⟨h 0 _ rfl, h 1 _ rfl, h 2 _ rfl, h 3 _ rfl⟩
  cell W b o x h j u hu := by
    obtain ⟨h0, h1, h2, h3⟩ := h
    match j, hu with
    | 0, hu => injection hu with hu; subst hu; exact h0
    | 1, hu => injection hu with hu; subst hu; exact h1
    | 2, hu => injection hu with hu; subst hu; exact h2
    | 3, hu => injection hu with hu; subst hu; exact h3
end Go.Proofs.Ytjhhncahlijohaa
