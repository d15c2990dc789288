/- Small laws on worlds, masks and readings that the other texts of this claim use. -/
import Derived.WalkKit
import Derived.WalkSpells
import Derived.WalkLawsBesides
import Derived.Deep.QuietTactic
import Derived.BigQuiet
import Derived.Lib.Hide
import Derived.Below
import Derived.OneCell
import Derived.Deep.LoopGhost
import Derived.Laws.BitsLemmas
set_option linter.unusedVariables false
set_option linter.unusedSimpArgs false
namespace Go.Proofs.Ytkjjfidbmkpljaa
open Go.RowKit

theorem i64_mask (i : Nat) (hi : i ≤ 62) (x : Int) : bits .and .i64 x (2 ^ i - 1) = x % 2 ^ i := by
  have hpos : 0 < 2 ^ i := Nat.two_pow_pos i
  have h62 : 2 ^ i ≤ 2 ^ 62 := Nat.pow_le_pow_right (by decide) hi
  have hc : ((2 : Int) ^ i - 1) = ((2 ^ i - 1 : Nat) : Int) := by
    rw [Int.natCast_sub hpos]; simp
  have hm : (2 ^ i - 1) % 2 ^ 64 = 2 ^ i - 1 := Nat.mod_eq_of_lt (by omega)
  have hb : IntKind.i64.bits = 64 := rfl
  rw [hc]
  simp only [bits, BitVec.ofInt_natCast, BitVec.toNat_and, BitVec.toNat_ofNat, BitVec.toNat_ofInt, hb, hm]
  rw [Nat.and_two_pow_sub_one_eq_mod]
  have hlt : (x % ((2 ^ 64 : Nat) : Int)).toNat % 2 ^ i < 2 ^ i := Nat.mod_lt _ hpos
  have hw : ∀ n : Nat, n < 2 ^ i → IntKind.i64.wrap (n : Int) = n := by
    intro n hn
    rw [IntKind.wrap_i64]
    have : n < 2 ^ 62 := by omega
    omega
  rw [hw _ hlt]
  have h0 : 0 ≤ x % ((2 ^ 64 : Nat) : Int) := Int.emod_nonneg _ (by decide)
  rw [Int.natCast_emod, Int.toNat_of_nonneg h0]
  rw [Int.emod_emod_of_dvd _ (by
    have : (2 : Nat) ^ i ∣ 2 ^ 64 := Nat.pow_dvd_pow 2 (by omega)
    exact_mod_cast this)]
  simp

theorem i64_and1 (x : Int) : bits .and .i64 x 1 = x % 2 := by simpa using i64_mask 1 (by decide) x
theorem i64_and3 (x : Int) : bits .and .i64 x 3 = x % 4 := by simpa using i64_mask 2 (by decide) x
theorem i64_and7 (x : Int) : bits .and .i64 x 7 = x % 8 := by simpa using i64_mask 3 (by decide) x
theorem i64_and31 (x : Int) : bits .and .i64 x 31 = x % 32 := by simpa using i64_mask 5 (by decide) x
theorem i64_and127 (x : Int) : bits .and .i64 x 127 = x % 128 := by simpa using i64_mask 7 (by decide) x
theorem i64_and255 (x : Int) : bits .and .i64 x 255 = x % 256 := by simpa using i64_mask 8 (by decide) x
theorem i64_and511 (x : Int) : bits .and .i64 x 511 = x % 512 := by simpa using i64_mask 9 (by decide) x
theorem i64_and1048575 (x : Int) : bits .and .i64 x 1048575 = x % 1048576 := by simpa using i64_mask 20 (by decide) x

theorem blk_new (w : World) (o : Obj) : (w.alloc o).heap[w.heap.size]? = some o := by
  show (w.heap.push o)[w.heap.size]? = _
  simp
theorem blk_set {w : World} {g : Nat} {cs : Array Value} {t : TypeId} {fr : Nat × Nat} (h : w.heap[g]? = some (.cells cs t fr)) (i : Nat) (v : Value) :
    (w.setCell ⟨g, i, none⟩ v).heap[g]? = some (.cells (cs.setIfInBounds i v) t fr) := by
  show (w.heap.modify g _)[g]? = _
  rw [Array.getElem?_modify, if_pos rfl, h]
  rfl
theorem below_drewN {B : Nat} {a w : World} (h : Below B a w) (n : Nat) : Below B a (w.drewN n) := ⟨h.os, h.tape, h.output, h.size, h.block⟩
theorem below_drew {B : Nat} {a w : World} (h : Below B a w) : Below B a w.drew := ⟨h.os, h.tape, h.output, h.size, h.block⟩
/-- One call behind the other: what each leaves below its own begin. -/
theorem bthen {w a b : World} (h : Below w.heap.size w a) (k : Below a.heap.size a b) : Below w.heap.size w b := h.trans (k.mono h.size)
theorem balloc (w : World) (o : Obj) : Below w.heap.size w (w.alloc o) := (Below.refl _ _).alloc (Nat.le_refl _) _
theorem bsize {w a : World} (h : Below w.heap.size w a) : w.heap.size ≤ a.heap.size := h.size

theorem cell_lt {w : World} {a : Addr} {v : Value} (h : w.cell? a = some v) : a.block < w.heap.size := by
  rcases Nat.lt_or_ge a.block w.heap.size with h' | h'
  · exact h'
  · simp [World.cell?, Array.getElem?_eq_none h'] at h
theorem addr_add (b off k : Nat) : (⟨b, off, none⟩ : Addr).add k = ⟨b, off + k, none⟩ := by
  unfold Addr.add
  split
  · simp_all
  · rfl
/-- What read reads the same still. -/
def Ext (w w' : World) : Prop := ∀ a v, w.cell? a = some v → w'.cell? a = some v
theorem Ext.refl (w : World) : Ext w w := fun _ _ h => h
theorem Ext.trans {a b c : World} (h : Ext a b) (k : Ext b c) : Ext a c := fun x v e => k x v (h x v e)
theorem Ext.below {w w' : World} (h : Below w.heap.size w w') : Ext w w' := fun a v e => (h.cell (cell_lt e)).trans e
theorem Ext.alloc (w : World) (o : Obj) : Ext w (w.alloc o) := Ext.below (balloc w o)
/-- The two rules for a walk behind a call that only makes memory. -/
theorem bcell {W w1 : World} (hb : Below W.heap.size W w1) : (∀ b o, b < W.heap.size → w1.cell? ⟨b, o, none⟩ = W.cell? ⟨b, o, none⟩) ∧ (∀ b o, b < W.heap.size → w1.frozen? ⟨b, o, none⟩ = W.frozen? ⟨b, o, none⟩) :=
  ⟨fun b o h => hb.cell (p := ⟨b, o, none⟩) h, fun b o h => hb.frozen (p := ⟨b, o, none⟩) h⟩
theorem ret_int {k : IntKind} {a b : Int} (h : a = b) : Ending.returned (.int k a) = .returned (.int k b) := by rw [h]
theorem ret_bool {a b : Bool} (h : a = b) : Ending.returned (.bool a) = .returned (.bool b) := by rw [h]

/-- A slice of xs, each element k cells and B bytes, that P tells of (the world, the block, the first cell's place). -/
def SliceAt {α : Type} (P : World → Nat → Nat → α → Prop) (k B : Nat) (w : World) (v : Value) (xs : List α) : Prop :=
  ∃ a cap, v = .slice a xs.length cap ∧ xs.length * B ≤ 140737488351232 ∧ xs.length ≤ cap ∧ cap ≤ maxLen ∧ (xs ≠ [] → ∃ b off, a = some ⟨b, off, none⟩ ∧ ∀ i (h : i < xs.length), P w b (off + i * k) xs[i])
theorem SliceAt.ext {α : Type} {P : World → Nat → Nat → α → Prop} {k B : Nat} {w w' : World} {v : Value} {xs : List α}
    (hP : ∀ b o x, P w b o x → P w' b o x) (h : SliceAt P k B w v xs) : SliceAt P k B w' v xs := by
  obtain ⟨a, cap, h1, h2, h3, h4, h5⟩ := h
  refine ⟨a, cap, h1, h2, h3, h4, fun hne => ?_⟩
  obtain ⟨b, off, e, f⟩ := h5 hne
  exact ⟨b, off, e, fun i hi => hP _ _ _ (f i hi)⟩
theorem box_at {w : World} {cs : Array Value} {t : TypeId} {fr : Nat × Nat} (j : Nat) {v : Value} (h : cs[j]? = some v) : (w.alloc (.cells cs t fr)).cell? ⟨w.heap.size, j, none⟩ = some v := by
  unfold World.cell?
  rw [blk_new]
  simpa using h
/-- A slice's beginning. -/
theorem SliceAt.take {α : Type} {P : World → Nat → Nat → α → Prop} {k B : Nat} {w : World} {a : Option Addr} {n cap : Nat} {xs : List α} (h : SliceAt P k B w (.slice a n cap) xs) (m : Nat) (hm : m ≤ xs.length) :
    SliceAt P k B w (.slice a m cap) (xs.take m) := by
  obtain ⟨a', cap', h1, h2, h3, h4, h5⟩ := h
  injection h1 with e1 e2 e3
  subst e1; subst e3
  have hl : (xs.take m).length = m := by simp; omega
  refine ⟨a, cap, by rw [hl], by rw [hl]; exact Nat.le_trans (Nat.mul_le_mul_right _ hm) h2, by omega, h4, fun hne => ?_⟩
  obtain ⟨b, off, e, f⟩ := h5 (by rintro rfl; simp at hne)
  refine ⟨b, off, e, fun i hi => ?_⟩
  have := f i (by omega)
  simpa using this
theorem ownsRow_some {w : World} {base : Nat} {e : TypeId} {size : Nat} {v : Value} {n : Nat} {xs : List Value} (h : w.ownsRow base e size v n xs) (hn : 0 < n) :
    ∃ g cap, v = .slice (some ⟨g, 0, none⟩) n cap ∧ base ≤ g ∧ n ≤ cap ∧ cap ≤ maxLen := by
  rcases h.2 with ⟨_, h0⟩ | ⟨g, cap, cur, rfl, hb, hg, hn, hm, _⟩
  · omega
  · exact ⟨g, cap, rfl, hb, hn, hm⟩
theorem ownsRow_int {w : World} {base : Nat} {e : TypeId} {g n cap : Nat} {xs : List Int} (h : w.ownsRow base e 1 (.slice (some ⟨g, 0, none⟩) n cap) n (xs.map (Value.int .i64))) (k : Nat) (hk : k < xs.length) (hn : xs.length = n) :
    w.cell? ⟨g, k, none⟩ = some (.int .i64 (xs.getD k 0)) := by
  rw [h.cellAt k (by omega)]
  simp [List.getD, List.getElem?_eq_getElem hk]
section
variable {P : Program} {w : World}
/-- 'append(s, x)' of one element onto a row of the call's own, the element in a block that has just been made. -/
theorem append_one {ops : Array Oper} {rest : List Oper} {o : Oper} {a : Act} {Q : Exit → Act → World → Prop} (hgd : o.guard = none) (s x : Operand) (t : TypeId)
    (ho : o.op = .call { callee := .builtin .append, args := #[s, x], argTypes := #[t, t] })
    (base : Nat) (e : TypeId) (z : Value) (size bytes : Nat) (ht : P.underlying t = some (.slice e)) (hinfo : (P.info? e).map (fun i => (i.zero, i.size, i.bytes)) = some (some z, size, bytes)) (hzs : z.cells.size = size) (hsz : 0 < size)
    (v : Value) (n : Nat) (xs : List Value) (hs : a.eval s = v) (hown : w.ownsRow base e size v n xs)
    (cs : List Value) (hx : a.eval x = .slice (some ⟨w.heap.size, 0, none⟩) 1 1) (hl : cs.length = size) (h1 : cs.all (·.oneCell') = true)
    (h63 : n + 1 ≤ 1000000000000) (hbytes : bytes ≤ 100) (hbase : base ≤ w.heap.size)
    (h : ∀ v' w', w'.ownsRow base e size v' (n + 1) (xs ++ cs) → Below base w w' → (w.alloc (.cells cs.toArray e)).grownBy w' v.ownBlock → wpList P ops Q rest (a.put o.dst v') w') : wpList P ops Q (o :: rest) a (w.alloc (.cells cs.toArray e)) := by
  obtain ⟨i, hi, hz, hsize, hby⟩ := info_parts hinfo
  have hnew := heap_alloc_new w (.cells cs.toArray e)
  refine wpList_append_own (w := w.alloc (.cells cs.toArray e)) hgd s x t ho base e i z size bytes ht hi hz hsize hby hzs hsz v n xs hs (hown.alloc _) ⟨w.heap.size, 0, none⟩ 1 1 cs hx (by omega) ?_ ?_ (by unfold maxLen; omega) ?_ (by simp; omega) ?_
  · intro j u hj
    rw [addr_add]
    unfold World.cell?
    simp only [hnew]
    simpa using hj
  · intro u hu
    exact List.all_eq_true.1 h1 u hu
  · calc (n + 1) * bytes ≤ 1000000000000 * 100 := Nat.mul_le_mul h63 hbytes
      _ ≤ 140737488355328 := by decide
  · intro v' w' ho' hg' _
    refine h v' w' ho' ?_ hg'
    exact ((Below.refl base w).alloc hbase _).grown hg' (by simp; omega) (fun k hk => (hown.lt k hk).1)
end
theorem Below.kept {base : Nat} {w w' : World} {e : TypeId} {size : Nat} {v : Value} {n : Nat} {xs : List Value} (h : w.ownsRow base e size v n xs) (hb : Below w.heap.size w w') : w'.ownsRow base e size v n xs :=
  h.kept (World.grownBy.mk hb.os hb.tape hb.output hb.size (fun j hj _ => hb.block j hj) : w.grownBy w' none) (by cases v.ownBlock <;> simp)
theorem keep_at {w w' : World} {g : Nat} {o : Obj} (h : w.heap[g]? = some o) (hb : Below w.heap.size w w') : w'.heap[g]? = some o := by
  have hlt : g < w.heap.size := (Array.getElem?_eq_some_iff.1 h).1
  exact (hb.block g hlt).trans h
theorem set_at {w : World} {g q j : Nat} {o : Obj} (v : Value) (h : w.heap[g]? = some o) (hne : g ≠ q) : (w.setCell ⟨q, j, none⟩ v).heap[g]? = some o := by
  rw [Below.heap_setCell _ _ _ _ hne]; exact h
theorem thaw {W : World} {g : Nat} {cs : Array Value} {t : TypeId} (h : W.heap[g]? = some (.cells cs t (0, 0))) (j : Nat) : W.frozen? ⟨g, j, none⟩ = false := by
  unfold World.frozen?; rw [h]; simp
theorem grown_trans {a b c : World} {r : Option Nat} (h : a.grownBy b r) (k : b.grownBy c r) : a.grownBy c r :=
  ⟨k.os.trans h.os, k.tape.trans h.tape, k.output.trans h.output, Nat.le_trans h.size k.size, fun j hj hr => (k.block j (Nat.lt_of_lt_of_le hj h.size) hr).trans (h.block j hj hr)⟩
theorem below_grown {W W' : World} (h : Below W.heap.size W W') (r : Option Nat) : W.grownBy W' r := ⟨h.os, h.tape, h.output, h.size, fun k hk _ => h.block k hk⟩
theorem set_grown (w : World) (g j : Nat) (u : Value) : w.grownBy (w.setCell ⟨g, j, none⟩ u) (some g) :=
  ⟨rfl, rfl, rfl, by simp [World.setCell], fun k _ hk => Below.heap_setCell _ _ _ _ (fun e => hk (by rw [e]))⟩
theorem cell_of_heap {w w' : World} (h : w'.heap = w.heap) (a : Addr) : w'.cell? a = w.cell? a := by
  unfold World.cell?
  rw [h]
theorem frozen_of_heap {w w' : World} (h : w'.heap = w.heap) (a : Addr) : w'.frozen? a = w.frozen? a := by
  unfold World.frozen?
  rw [h]
/-- A struct of four cells that is written over. -/
def put4 (W : World) (b : Nat) (u0 u1 u2 u3 : Value) : World := (((W.setCell ⟨b, 0, none⟩ u0).setCell ⟨b, 1, none⟩ u1).setCell ⟨b, 2, none⟩ u2).setCell ⟨b, 3, none⟩ u3
theorem put4_at {W : World} {b : Nat} {a0 a1 a2 a3 : Value} {t : TypeId} (h : W.heap[b]? = some (.cells #[a0, a1, a2, a3] t (0, 0))) (u0 u1 u2 u3 : Value) : (put4 W b u0 u1 u2 u3).heap[b]? = some (.cells #[u0, u1, u2, u3] t (0, 0)) :=
  blk_set (blk_set (blk_set (blk_set h 0 u0) 1 u1) 2 u2) 3 u3
theorem put4_grown (W : World) (b : Nat) (u0 u1 u2 u3 : Value) : W.grownBy (put4 W b u0 u1 u2 u3) (some b) :=
  grown_trans (grown_trans (grown_trans (set_grown _ _ _ _) (set_grown _ _ _ _)) (set_grown _ _ _ _)) (set_grown _ _ _ _)
theorem bput {B : Nat} {w W W' : World} {b : Nat} (h : Below B w W) (hg : W.grownBy W' (some b)) (hB : B ≤ b) (hs : B ≤ w.heap.size) : Below B w W' :=
  h.grown hg (Nat.le_trans hs h.size) (fun k hk => by injection hk with hk; omega)
theorem Ext.drewN (w : World) (n : Nat) : Ext w (w.drewN n) := fun _ _ h => h
end Go.Proofs.Ytkjjfidbmkpljaa
