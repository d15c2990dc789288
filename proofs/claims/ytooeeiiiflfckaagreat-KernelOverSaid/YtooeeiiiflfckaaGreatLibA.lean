/- Several texts of this claim as one. -/
import Derived.WalkKit
import Derived.WalkSpells
import Derived.WalkLawsBesides
import Derived.Deep.QuietTactic
import Derived.BigQuiet
import Derived.Lib.Hide
import Derived.Below
import Derived.OneCell
import Derived.Deep.LoopGhost
import Derived.Laws.BitsLemmas
import Derived.Laws.OwnMore
import Derived.Deep.RegionLaw
import Derived.Deep.RegionHeld3
import Derived.Deep.DeepCutAuto
import Derived.RegionTactic
import Derived.StillTailTactics
/- Small laws on worlds, masks and readings that the other texts of this claim use. -/
set_option linter.unusedVariables false
set_option linter.unusedSimpArgs false
namespace Go.Proofs.YtooeeiiiflfckaaGreat
open Go.RowKit
theorem i64_mask (i : Nat) (hi : i <= 62) (x : Int) : bits .and .i64 x (2 ^ i - 1) = x % 2 ^ i := by
 have hpos : 0 < 2 ^ i := Nat.two_pow_pos i
 have h62 : 2 ^ i <= 2 ^ 62 := Nat.pow_le_pow_right (by decide) hi
 have hc : ((2 : Int) ^ i - 1) = ((2 ^ i - 1 : Nat) : Int) := by
  rw [Int.natCast_sub hpos]; simp
 have hm : (2 ^ i - 1) % 2 ^ 64 = 2 ^ i - 1 := Nat.mod_eq_of_lt (by omega)
 have hb : IntKind.i64.bits = 64 := rfl
 rw [hc]
 simp only [bits, BitVec.ofInt_natCast, BitVec.toNat_and, BitVec.toNat_ofNat, BitVec.toNat_ofInt, hb, hm]
 rw [Nat.and_two_pow_sub_one_eq_mod]
 have hlt : (x % ((2 ^ 64 : Nat) : Int)).toNat % 2 ^ i < 2 ^ i := Nat.mod_lt _ hpos
 have hw : ∀ n : Nat, n < 2 ^ i -> IntKind.i64.wrap (n : Int) = n := by
  intro n hn
  rw [IntKind.wrap_i64]
  have : n < 2 ^ 62 := by omega
  omega
 rw [hw _ hlt]
 have h0 : 0 <= x % ((2 ^ 64 : Nat) : Int) := Int.emod_nonneg _ (by decide)
 rw [Int.natCast_emod, Int.toNat_of_nonneg h0]
 rw [Int.emod_emod_of_dvd _ (by
  have : (2 : Nat) ^ i ∣ 2 ^ 64 := Nat.pow_dvd_pow 2 (by omega)
  exact_mod_cast this)]
 simp
theorem i64_and1 (x : Int) : bits .and .i64 x 1 = x % 2 := by simpa using i64_mask 1 (by decide) x
theorem i64_and3 (x : Int) : bits .and .i64 x 3 = x % 4 := by simpa using i64_mask 2 (by decide) x
theorem i64_and7 (x : Int) : bits .and .i64 x 7 = x % 8 := by simpa using i64_mask 3 (by decide) x
theorem i64_and31 (x : Int) : bits .and .i64 x 31 = x % 32 := by simpa using i64_mask 5 (by decide) x
theorem i64_and127 (x : Int) : bits .and .i64 x 127 = x % 128 := by simpa using i64_mask 7 (by decide) x
theorem i64_and255 (x : Int) : bits .and .i64 x 255 = x % 256 := by simpa using i64_mask 8 (by decide) x
theorem blk_new (w : World) (o : Obj) : (w.alloc o).heap[w.heap.size]? = some o := by
 show (w.heap.push o)[w.heap.size]? = _
 simp
theorem blk_set {w : World} {g : Nat} {cs : Array Value} {t : TypeId} {fr : Nat × Nat} (h : w.heap[g]? = some (.cells cs t fr)) (i : Nat) (v : Value) :
  (w.setCell ⟨g, i, none⟩ v).heap[g]? = some (.cells (cs.setIfInBounds i v) t fr) := by
 show (w.heap.modify g _)[g]? = _
 rw [Array.getElem?_modify, if_pos rfl, h]
 rfl
theorem below_drewN {B : Nat} {a w : World} (h : Below B a w) (n : Nat) : Below B a (w.drewN n) := ⟨h.os, h.tape, h.output, h.size, h.block⟩
theorem below_drew {B : Nat} {a w : World} (h : Below B a w) : Below B a w.drew := ⟨h.os, h.tape, h.output, h.size, h.block⟩
theorem bthen {w a b : World} (h : Below w.heap.size w a) (k : Below a.heap.size a b) : Below w.heap.size w b := h.trans (k.mono h.size)
theorem balloc (w : World) (o : Obj) : Below w.heap.size w (w.alloc o) := (Below.refl _ _).alloc (Nat.le_refl _) _
theorem alloc_all (w : World) (o : Obj) : ∃ wa ga, wa = w.alloc o /\ ga = w.heap.size /\ Below w.heap.size w wa /\ wa.heap[ga]? = some o /\ wa.heap.size = w.heap.size + 1 := ⟨_, _, rfl, rfl, balloc _ _, blk_new _ _, by simp⟩
theorem cell_lt {w : World} {a : Addr} {v : Value} (h : w.cell? a = some v) : a.block < w.heap.size := by
 rcases Nat.lt_or_ge a.block w.heap.size with h' | h'
 ·exact h'
 ·simp [World.cell?, Array.getElem?_eq_none h'] at h
theorem addr_add (b off k : Nat) : (⟨b, off, none⟩ : Addr).add k = ⟨b, off + k, none⟩ := by
 unfold Addr.add
 split
 ·simp_all
 ·rfl
def Ext (w w' : World) : Prop := ∀ a v, w.cell? a = some v -> w'.cell? a = some v
theorem Ext.refl (w : World) : Ext w w := fun _ _ h => h
theorem Ext.trans {a b c : World} (h : Ext a b) (k : Ext b c) : Ext a c := fun x v e => k x v (h x v e)
theorem Ext.below {w w' : World} (h : Below w.heap.size w w') : Ext w w' := fun a v e => (h.cell (cell_lt e)).trans e
theorem Ext.alloc (w : World) (o : Obj) : Ext w (w.alloc o) := Ext.below (balloc w o)
theorem bcell {W w1 : World} (hb : Below W.heap.size W w1) : (∀ b o, b < W.heap.size -> w1.cell? ⟨b, o, none⟩ = W.cell? ⟨b, o, none⟩) /\ (∀ b o, b < W.heap.size -> w1.frozen? ⟨b, o, none⟩ = W.frozen? ⟨b, o, none⟩) :=
 ⟨fun b o h => hb.cell (p := ⟨b, o, none⟩) h, fun b o h => hb.frozen (p := ⟨b, o, none⟩) h⟩
theorem ret_int {k : IntKind} {a b : Int} (h : a = b) : Ending.returned (.int k a) = .returned (.int k b) := by rw [h]
theorem ret_bool {a b : Bool} (h : a = b) : Ending.returned (.bool a) = .returned (.bool b) := by rw [h]
def SliceAt {α : Type} (P : World -> Nat -> Nat -> α -> Prop) (k B : Nat) (w : World) (v : Value) (xs : List α) : Prop :=
 ∃ a cap, v = .slice a xs.length cap /\ xs.length * B <= 140737488351232 /\ xs.length <= cap /\ cap <= maxLen /\ (xs ≠ [] -> ∃ b off, a = some ⟨b, off, none⟩ /\ ∀ i (h : i < xs.length), P w b (off + i * k) xs[i])
theorem SliceAt.ext {α : Type} {P : World -> Nat -> Nat -> α -> Prop} {k B : Nat} {w w' : World} {v : Value} {xs : List α}
  (hP : ∀ b o x, P w b o x -> P w' b o x) (h : SliceAt P k B w v xs) : SliceAt P k B w' v xs := by
 obtain ⟨a, cap, h1, h2, h3, h4, h5⟩ := h
 refine ⟨a, cap, h1, h2, h3, h4, fun hne => ?_⟩
 obtain ⟨b, off, e, f⟩ := h5 hne
 exact ⟨b, off, e, fun i hi => hP _ _ _ (f i hi)⟩
theorem box_at {w : World} {cs : Array Value} {t : TypeId} {fr : Nat × Nat} (j : Nat) {v : Value} (h : cs[j]? = some v) : (w.alloc (.cells cs t fr)).cell? ⟨w.heap.size, j, none⟩ = some v := by
 unfold World.cell?
 rw [blk_new]
 simpa using h
theorem SliceAt.take {α : Type} {P : World -> Nat -> Nat -> α -> Prop} {k B : Nat} {w : World} {a : Option Addr} {n cap : Nat} {xs : List α} (h : SliceAt P k B w (.slice a n cap) xs) (m : Nat) (hm : m <= xs.length) :
  SliceAt P k B w (.slice a m cap) (xs.take m) := by
 obtain ⟨a', cap', h1, h2, h3, h4, h5⟩ := h
 injection h1 with e1 e2 e3
 subst e1; subst e3
 have hl : (xs.take m).length = m := by simp; omega
 refine ⟨a, cap, by rw [hl], by rw [hl]; exact Nat.le_trans (Nat.mul_le_mul_right _ hm) h2, by omega, h4, fun hne => ?_⟩
 obtain ⟨b, off, e, f⟩ := h5 (by rintro rfl; simp at hne)
 refine ⟨b, off, e, fun i hi => ?_⟩
 have := f i (by omega)
 simpa using this
theorem ownsRow_some {w : World} {base : Nat} {e : TypeId} {size : Nat} {v : Value} {n : Nat} {xs : List Value} (h : w.ownsRow base e size v n xs) (hn : 0 < n) :
  ∃ g cap, v = .slice (some ⟨g, 0, none⟩) n cap /\ base <= g /\ n <= cap /\ cap <= maxLen := by
 rcases h.2 with ⟨_, h0⟩ | ⟨g, cap, cur, rfl, hb, hg, hn, hm, _⟩
 ·omega
 ·exact ⟨g, cap, rfl, hb, hn, hm⟩
theorem ownsRow_int {w : World} {base : Nat} {e : TypeId} {g n cap : Nat} {xs : List Int} (h : w.ownsRow base e 1 (.slice (some ⟨g, 0, none⟩) n cap) n (xs.map (Value.int .i64))) (k : Nat) (hk : k < xs.length) (hn : xs.length = n) :
  w.cell? ⟨g, k, none⟩ = some (.int .i64 (xs.getD k 0)) := by
 rw [h.cellAt k (by omega)]
 simp [List.getD, List.getElem?_eq_getElem hk]
section
variable {P : Program} {w : World}
theorem append_one {ops : Array Oper} {rest : List Oper} {o : Oper} {a : Act} {Q : Exit -> Act -> World -> Prop} (hgd : o.guard = none) (s x : Operand) (t : TypeId)
  (ho : o.op = .call { callee := .builtin .append, args := #[s, x], argTypes := #[t, t] })
  (base : Nat) (e : TypeId) (z : Value) (size bytes : Nat) (ht : P.underlying t = some (.slice e)) (hinfo : (P.info? e).map (fun i => (i.zero, i.size, i.bytes)) = some (some z, size, bytes)) (hzs : z.cells.size = size) (hsz : 0 < size)
  (v : Value) (n : Nat) (xs : List Value) (hs : a.eval s = v) (hown : w.ownsRow base e size v n xs)
  (cs : List Value) (hx : a.eval x = .slice (some ⟨w.heap.size, 0, none⟩) 1 1) (hl : cs.length = size) (h1 : cs.all (·.oneCell') = true)
  (h63 : n + 1 <= 1000000000000) (hbytes : bytes <= 100) (hbase : base <= w.heap.size)
  (h : ∀ v' w', w'.ownsRow base e size v' (n + 1) (xs ++ cs) -> Below base w w' -> (w.alloc (.cells cs.toArray e)).grownBy w' v.ownBlock -> wpList P ops Q rest (a.put o.dst v') w') : wpList P ops Q (o :: rest) a (w.alloc (.cells cs.toArray e)) := by
 obtain ⟨i, hi, hz, hsize, hby⟩ := info_parts hinfo
 have hnew := heap_alloc_new w (.cells cs.toArray e)
 refine wpList_append_own (w := w.alloc (.cells cs.toArray e)) hgd s x t ho base e i z size bytes ht hi hz hsize hby hzs hsz v n xs hs (hown.alloc _) ⟨w.heap.size, 0, none⟩ 1 1 cs hx (by omega) ?_ ?_ (by unfold maxLen; omega) ?_ (by simp; omega) ?_
 ·intro j u hj
  rw [addr_add]
  unfold World.cell?
  simp only [hnew]
  simpa using hj
 ·intro u hu
  exact List.all_eq_true.1 h1 u hu
 ·calc (n + 1) * bytes <= 1000000000000 * 100 := Nat.mul_le_mul h63 hbytes
   _ <= 140737488355328 := by decide
 ·intro v' w' ho' hg' _
  refine h v' w' ho' ?_ hg'
  exact ((Below.refl base w).alloc hbase _).grown hg' (by simp; omega) (fun k hk => (hown.lt k hk).1)
end
theorem Below.kept {base : Nat} {w w' : World} {e : TypeId} {size : Nat} {v : Value} {n : Nat} {xs : List Value} (h : w.ownsRow base e size v n xs) (hb : Below w.heap.size w w') : w'.ownsRow base e size v n xs :=
 h.kept (World.grownBy.mk hb.os hb.tape hb.output hb.size (fun j hj _ => hb.block j hj) : w.grownBy w' none) (by cases v.ownBlock <;> simp)
theorem keep_at {w w' : World} {g : Nat} {o : Obj} (h : w.heap[g]? = some o) (hb : Below w.heap.size w w') : w'.heap[g]? = some o := by
 have hlt : g < w.heap.size := (Array.getElem?_eq_some_iff.1 h).1
 exact (hb.block g hlt).trans h
theorem set_at {w : World} {g q j : Nat} {o : Obj} (v : Value) (h : w.heap[g]? = some o) (hne : g ≠ q) : (w.setCell ⟨q, j, none⟩ v).heap[g]? = some o := by
 rw [Below.heap_setCell _ _ _ _ hne]; exact h
theorem thaw {W : World} {g : Nat} {cs : Array Value} {t : TypeId} (h : W.heap[g]? = some (.cells cs t (0, 0))) (j : Nat) : W.frozen? ⟨g, j, none⟩ = false := by
 unfold World.frozen?; rw [h]; simp
theorem grown_trans {a b c : World} {r : Option Nat} (h : a.grownBy b r) (k : b.grownBy c r) : a.grownBy c r :=
 ⟨k.os.trans h.os, k.tape.trans h.tape, k.output.trans h.output, Nat.le_trans h.size k.size, fun j hj hr => (k.block j (Nat.lt_of_lt_of_le hj h.size) hr).trans (h.block j hj hr)⟩
theorem below_grown {W W' : World} (h : Below W.heap.size W W') (r : Option Nat) : W.grownBy W' r := ⟨h.os, h.tape, h.output, h.size, fun k hk _ => h.block k hk⟩
theorem set_grown (w : World) (g j : Nat) (u : Value) : w.grownBy (w.setCell ⟨g, j, none⟩ u) (some g) :=
 ⟨rfl, rfl, rfl, by simp [World.setCell], fun k _ hk => Below.heap_setCell _ _ _ _ (fun e => hk (by rw [e]))⟩
theorem cell_of_heap {w w' : World} (h : w'.heap = w.heap) (a : Addr) : w'.cell? a = w.cell? a := by
 unfold World.cell?
 rw [h]
def put4 (W : World) (b : Nat) (u0 u1 u2 u3 : Value) : World := (((W.setCell ⟨b, 0, none⟩ u0).setCell ⟨b, 1, none⟩ u1).setCell ⟨b, 2, none⟩ u2).setCell ⟨b, 3, none⟩ u3
theorem put4_at {W : World} {b : Nat} {a0 a1 a2 a3 : Value} {t : TypeId} (h : W.heap[b]? = some (.cells #[a0, a1, a2, a3] t (0, 0))) (u0 u1 u2 u3 : Value) : (put4 W b u0 u1 u2 u3).heap[b]? = some (.cells #[u0, u1, u2, u3] t (0, 0)) :=
 blk_set (blk_set (blk_set (blk_set h 0 u0) 1 u1) 2 u2) 3 u3
theorem put4_grown (W : World) (b : Nat) (u0 u1 u2 u3 : Value) : W.grownBy (put4 W b u0 u1 u2 u3) (some b) :=
 grown_trans (grown_trans (grown_trans (set_grown _ _ _ _) (set_grown _ _ _ _)) (set_grown _ _ _ _)) (set_grown _ _ _ _)
theorem bput {B : Nat} {w W W' : World} {b : Nat} (h : Below B w W) (hg : W.grownBy W' (some b)) (hB : B <= b) (hs : B <= w.heap.size) : Below B w W' :=
 h.grown hg (Nat.le_trans hs h.size) (fun k hk => by injection hk with hk; omega)
theorem Ext.drewN (w : World) (n : Nat) : Ext w (w.drewN n) := fun _ _ h => h
end Go.Proofs.YtooeeiiiflfckaaGreat
/- The data of a configuration, and how it lies in memory. -/
namespace Go.Proofs.YtooeeiiiflfckaaGreat
open Go.RowKit
structure Task where
 kind : Int
 period : Int
 deadline : Int
 clow : Int
 chigh : Int
 prio : Int
deriving DecidableEq
structure Instr where
 op : Int
 arg : Int
deriving DecidableEq
structure Part where
 level : Int
 tasks : List Task
 code : List Instr
deriving DecidableEq
structure Window where
 from_ : Int
 to_ : Int
 part : Int
deriving DecidableEq
structure Port where
 kind : Int
 from_ : Int
 to_ : Int
 size : Int
deriving DecidableEq
structure Config where
 frame : Int
 quiet : Int
 parts : List Part
 windows : List Window
 ports : List Port
deriving DecidableEq
def IntAt (w : World) (b o : Nat) (x : Int) : Prop := w.cell? ⟨b, o, none⟩ = some (.int .i64 x)
theorem IntAt.ext {w w' : World} (e : Ext w w') {b o : Nat} {x : Int} (h : IntAt w b o x) : IntAt w' b o x := e _ _ h
def TaskAt (w : World) (b o : Nat) (x : Task) : Prop := IntAt w b o x.kind /\ IntAt w b (o + 1) x.period /\ IntAt w b (o + 2) x.deadline /\ IntAt w b (o + 3) x.clow /\ IntAt w b (o + 4) x.chigh /\ IntAt w b (o + 5) x.prio
theorem TaskAt.ext {w w' : World} (e : Ext w w') {b o : Nat} {x : Task} (h : TaskAt w b o x) : TaskAt w' b o x :=
 ⟨h.1.ext e, h.2.1.ext e, h.2.2.1.ext e, h.2.2.2.1.ext e, h.2.2.2.2.1.ext e, h.2.2.2.2.2.ext e⟩
def InstrAt (w : World) (b o : Nat) (x : Instr) : Prop := IntAt w b o x.op /\ IntAt w b (o + 1) x.arg
theorem InstrAt.ext {w w' : World} (e : Ext w w') {b o : Nat} {x : Instr} (h : InstrAt w b o x) : InstrAt w' b o x := ⟨h.1.ext e, h.2.ext e⟩
def WindowAt (w : World) (b o : Nat) (x : Window) : Prop := IntAt w b o x.from_ /\ IntAt w b (o + 1) x.to_ /\ IntAt w b (o + 2) x.part
theorem WindowAt.ext {w w' : World} (e : Ext w w') {b o : Nat} {x : Window} (h : WindowAt w b o x) : WindowAt w' b o x := ⟨h.1.ext e, h.2.1.ext e, h.2.2.ext e⟩
def PortAt (w : World) (b o : Nat) (x : Port) : Prop := IntAt w b o x.kind /\ IntAt w b (o + 1) x.from_ /\ IntAt w b (o + 2) x.to_ /\ IntAt w b (o + 3) x.size
theorem PortAt.ext {w w' : World} (e : Ext w w') {b o : Nat} {x : Port} (h : PortAt w b o x) : PortAt w' b o x := ⟨h.1.ext e, h.2.1.ext e, h.2.2.1.ext e, h.2.2.2.ext e⟩
def IntsV (w : World) (v : Value) (xs : List Int) : Prop := SliceAt IntAt 1 8 w v xs
def TasksV (w : World) (v : Value) (xs : List Task) : Prop := SliceAt TaskAt 6 48 w v xs
def CodeV (w : World) (v : Value) (xs : List Instr) : Prop := SliceAt InstrAt 2 16 w v xs
def WindowsV (w : World) (v : Value) (xs : List Window) : Prop := SliceAt WindowAt 3 24 w v xs
def PortsV (w : World) (v : Value) (xs : List Port) : Prop := SliceAt PortAt 4 32 w v xs
theorem IntsV.ext {w w' : World} (e : Ext w w') {v : Value} {xs : List Int} (h : IntsV w v xs) : IntsV w' v xs := SliceAt.ext (fun _ _ _ => IntAt.ext e) h
theorem TasksV.ext {w w' : World} (e : Ext w w') {v : Value} {xs : List Task} (h : TasksV w v xs) : TasksV w' v xs := SliceAt.ext (fun _ _ _ => TaskAt.ext e) h
theorem CodeV.ext {w w' : World} (e : Ext w w') {v : Value} {xs : List Instr} (h : CodeV w v xs) : CodeV w' v xs := SliceAt.ext (fun _ _ _ => InstrAt.ext e) h
theorem WindowsV.ext {w w' : World} (e : Ext w w') {v : Value} {xs : List Window} (h : WindowsV w v xs) : WindowsV w' v xs := SliceAt.ext (fun _ _ _ => WindowAt.ext e) h
theorem PortsV.ext {w w' : World} (e : Ext w w') {v : Value} {xs : List Port} (h : PortsV w v xs) : PortsV w' v xs := SliceAt.ext (fun _ _ _ => PortAt.ext e) h
structure PartIs (w : World) (tv cv : Value) (x : Part) : Prop where
 tasks : TasksV w tv x.tasks
 code : CodeV w cv x.code
theorem PartIs.ext {w w' : World} (e : Ext w w') {tv cv : Value} {x : Part} (h : PartIs w tv cv x) : PartIs w' tv cv x := ⟨h.tasks.ext e, h.code.ext e⟩
def PartAt (w : World) (b o : Nat) (x : Part) : Prop := IntAt w b o x.level /\ ∃ tv cv, w.cell? ⟨b, o + 1, none⟩ = some tv /\ w.cell? ⟨b, o + 2, none⟩ = some cv /\ PartIs w tv cv x
theorem PartAt.ext {w w' : World} (e : Ext w w') {b o : Nat} {x : Part} (h : PartAt w b o x) : PartAt w' b o x := by
 obtain ⟨h1, tv, cv, h2, h3, h4⟩ := h
 exact ⟨h1.ext e, tv, cv, e _ _ h2, e _ _ h3, h4.ext e⟩
def PartsV (w : World) (v : Value) (xs : List Part) : Prop := SliceAt PartAt 3 56 w v xs
theorem PartsV.ext {w w' : World} (e : Ext w w') {v : Value} {xs : List Part} (h : PartsV w v xs) : PartsV w' v xs := SliceAt.ext (fun _ _ _ => PartAt.ext e) h
structure CfgIs (w : World) (pv wv ov : Value) (c : Config) : Prop where
 parts : PartsV w pv c.parts
 windows : WindowsV w wv c.windows
 ports : PortsV w ov c.ports
theorem CfgIs.ext {w w' : World} (e : Ext w w') {pv wv ov : Value} {c : Config} (h : CfgIs w pv wv ov c) : CfgIs w' pv wv ov c := ⟨h.parts.ext e, h.windows.ext e, h.ports.ext e⟩
def CfgV (w : World) (v : Value) (c : Config) : Prop := ∃ pv wv ov, v = .agg #[.int .i64 c.frame, .int .i64 c.quiet, pv, wv, ov] /\ CfgIs w pv wv ov c
theorem CfgV.ext {w w' : World} (e : Ext w w') {v : Value} {c : Config} (h : CfgV w v c) : CfgV w' v c := by
 obtain ⟨pv, wv, ov, h1, h2⟩ := h
 exact ⟨pv, wv, ov, h1, h2.ext e⟩
structure CfgC (w : World) (g : Nat) (pv wv ov : Value) (c : Config) : Prop where
 c0 : IntAt w g 0 c.frame
 c1 : IntAt w g 1 c.quiet
 c2 : w.cell? ⟨g, 2, none⟩ = some pv
 c3 : w.cell? ⟨g, 3, none⟩ = some wv
 c4 : w.cell? ⟨g, 4, none⟩ = some ov
 is : CfgIs w pv wv ov c
theorem CfgC.ext {w w' : World} (e : Ext w w') {g : Nat} {pv wv ov : Value} {c : Config} (h : CfgC w g pv wv ov c) : CfgC w' g pv wv ov c :=
 ⟨h.c0.ext e, h.c1.ext e, e _ _ h.c2, e _ _ h.c3, e _ _ h.c4, h.is.ext e⟩
def CfgP (w : World) (g : Nat) (c : Config) : Prop := ∃ pv wv ov, CfgC w g pv wv ov c
theorem CfgC.p {w : World} {g : Nat} {pv wv ov : Value} {c : Config} (h : CfgC w g pv wv ov c) : CfgP w g c := ⟨pv, wv, ov, h⟩
theorem CfgP.ext {w w' : World} (e : Ext w w') {g : Nat} {c : Config} (h : CfgP w g c) : CfgP w' g c := by
 obtain ⟨pv, wv, ov, h1, h2, h3, h4, h5, h6⟩ := h
 exact ⟨pv, wv, ov, h1.ext e, h2.ext e, e _ _ h3, e _ _ h4, e _ _ h5, h6.ext e⟩
abbrev taskV (x : Task) : Value := .agg #[.int .i64 x.kind, .int .i64 x.period, .int .i64 x.deadline, .int .i64 x.clow, .int .i64 x.chigh, .int .i64 x.prio]
abbrev portV (x : Port) : Value := .agg #[.int .i64 x.kind, .int .i64 x.from_, .int .i64 x.to_, .int .i64 x.size]
end Go.Proofs.YtooeeiiiflfckaaGreat
/- A block of cells that the call has made and writes: its cells as a function of the place. -/
namespace Go.Proofs.YtooeeiiiflfckaaGreat
open Go.RowKit
theorem CfgIs.shape {w : World} {pv wv ov : Value} {c : Config} (h : CfgIs w pv wv ov c) : ∃ pa pk wa wk oa ok, pv = .slice pa c.parts.length pk /\ wv = .slice wa c.windows.length wk /\ ov = .slice oa c.ports.length ok := by
 obtain ⟨pa, pk, h1, -⟩ := h.parts
 obtain ⟨wa, wk, h2, -⟩ := h.windows
 obtain ⟨oa, ok, h3, -⟩ := h.ports
 exact ⟨pa, pk, wa, wk, oa, ok, h1, h2, h3⟩
def ValRow (w : World) (q n : Nat) (f : Nat -> Value) : Prop := ∃ cur t, w.heap[q]? = some (.cells cur t (0, 0)) /\ cur.size = n /\ ∀ s, s < n -> cur[s]? = some (f s)
theorem ValRow.cell {w : World} {q n : Nat} {f : Nat -> Value} (h : ValRow w q n f) (s : Nat) (hs : s < n) : w.cell? ⟨q, s, none⟩ = some (f s) := by
 obtain ⟨cur, t, h1, h2, h3⟩ := h
 unfold World.cell?
 rw [h1]
 simpa using h3 s hs
theorem ValRow.lt {w : World} {q n : Nat} {f : Nat -> Value} (h : ValRow w q n f) : q < w.heap.size := by
 obtain ⟨cur, t, h1, -⟩ := h
 exact lt_of_block h1
theorem ValRow.set {w : World} {q n : Nat} {f : Nat -> Value} (h : ValRow w q n f) (j : Nat) (v : Value) : ValRow (w.setCell ⟨q, j, none⟩ v) q n (fun s => if s = j then v else f s) := by
 obtain ⟨cur, t, h1, h2, h3⟩ := h
 refine ⟨_, _, blk_set h1 j v, by simpa using h2, fun s hs => ?_⟩
 rw [Array.getElem?_setIfInBounds]
 by_cases e : s = j
 ·subst e
  rw [if_pos rfl, if_pos (by omega)]
  simp
 ·rw [if_neg (fun h => e h.symm)]
  exact (h3 s hs).trans (by simp [e])
theorem ValRow.below {w w' : World} {q n : Nat} {f : Nat -> Value} (h : ValRow w q n f) (hb : Below w.heap.size w w') : ValRow w' q n f := by
 have hl := h.lt
 obtain ⟨cur, t, h1, h2, h3⟩ := h
 exact ⟨cur, t, (hb.block q hl).trans h1, h2, h3⟩
theorem ValRow.far {w : World} {q n : Nat} {f : Nat -> Value} (h : ValRow w q n f) {p : Nat} (hp : p ≠ q) (j : Nat) (v : Value) : ValRow (w.setCell ⟨p, j, none⟩ v) q n f := by
 obtain ⟨cur, t, h1, h2, h3⟩ := h
 exact ⟨cur, t, by rw [Below.heap_setCell _ _ _ _ (fun e => hp e.symm)]; exact h1, h2, h3⟩
theorem ValRow.drewN {w : World} {q n : Nat} {f : Nat -> Value} (h : ValRow w q n f) (m : Nat) : ValRow (w.drewN m) q n f := h
theorem ValRow.congr {w : World} {q n : Nat} {f g : Nat -> Value} (h : ValRow w q n f) (e : ∀ s, s < n -> f s = g s) : ValRow w q n g := by
 obtain ⟨cur, t, h1, h2, h3⟩ := h
 exact ⟨cur, t, h1, h2, fun s hs => by rw [h3 s hs, e s hs]⟩
end Go.Proofs.YtooeeiiiflfckaaGreat
/- Slices and rows of the call's own, whatever their elements. -/
namespace Go.Proofs.YtooeeiiiflfckaaGreat
open Go.RowKit
theorem slice0 {α : Type} (P : World -> Nat -> Nat -> α -> Prop) (k B : Nat) (w : World) : SliceAt P k B w (.slice none 0 0) [] :=
 ⟨none, 0, rfl, by simp, by simp, by simp, fun h => absurd rfl h⟩
theorem slice1 {α : Type} {P : World -> Nat -> Nat -> α -> Prop} {k B : Nat} {w : World} {b : Nat} {x : α} (hB : B <= 100) (h0 : P w b 0 x) : SliceAt P k B w (.slice (some ⟨b, 0, none⟩) 1 1) [x] :=
 ⟨some ⟨b, 0, none⟩, 1, rfl, by simp; omega, by simp, by decide, fun _ => ⟨b, 0, rfl, fun i hi => by
  obtain rfl : i = 0 := by simp at hi; omega
  simpa using h0⟩⟩
theorem slice2 {α : Type} {P : World -> Nat -> Nat -> α -> Prop} {k B : Nat} {w : World} {b : Nat} {x y : α} (hB : B <= 100) (h0 : P w b 0 x) (h1 : P w b k y) : SliceAt P k B w (.slice (some ⟨b, 0, none⟩) 2 2) [x, y] :=
 ⟨some ⟨b, 0, none⟩, 2, rfl, by simp; omega, by simp, by decide, fun _ => ⟨b, 0, rfl, fun i hi => by
  have hi : i < 2 := by simpa using hi
  match i, hi with
  | 0, _ => simpa using h0
  | 1, _ => simpa using h1⟩⟩
theorem heap_push (w : World) (o : Obj) : (w.alloc o).heap = w.heap.push o := rfl
def BlockIs (W : World) (b : Nat) (cs : Array Value) : Prop := ∀ j v, cs[j]? = some v -> W.cell? ⟨b, j, none⟩ = some v
theorem BlockIs.of {W : World} {b : Nat} {cs : Array Value} {t : TypeId} {fr : Nat × Nat} (h : W.heap[b]? = some (.cells cs t fr)) : BlockIs W b cs := by
 intro j v hv
 unfold World.cell?
 rw [h]
 simpa using hv
theorem BlockIs.ext {W W' : World} (e : Ext W W') {b : Nat} {cs : Array Value} (h : BlockIs W b cs) : BlockIs W' b cs := fun j v hv => e _ _ (h j v hv)
structure Told {α : Type} (P : World -> Nat -> Nat -> α -> Prop) (k : Nat) : Prop where
 has : ∀ {w : World} {b o : Nat} {x : α}, P w b o x -> ∀ j, j < k -> ∃ u, w.cell? ⟨b, o + j, none⟩ = some u /\ u.oneCell' = true
 move : ∀ {w w' : World} {b o b' o' : Nat} {x : α}, P w b o x -> Ext w w' -> (∀ j u, j < k -> w.cell? ⟨b, o + j, none⟩ = some u -> w'.cell? ⟨b', o' + j, none⟩ = some u) -> P w' b' o' x
theorem IntAt.has {w : World} {b o : Nat} {x : Int} (h : IntAt w b o x) : ∃ u, w.cell? ⟨b, o, none⟩ = some u /\ u.oneCell' = true := ⟨_, h, rfl⟩
def Src (w : World) (x : Value) (m : Nat) (news : List Value) : Prop :=
 (∃ c, x = .slice none m c /\ m = 0 /\ news = []) ∨ ∃ ad c, x = .slice (some ad) m c /\ ∀ j u, news[j]? = some u -> w.cell? (ad.add j) = some u
theorem SliceAt.cells {α : Type} {P : World -> Nat -> Nat -> α -> Prop} {k B : Nat} (T : Told P k) (hk : 0 < k) {w : World} {v : Value} {xs : List α} (h : SliceAt P k B w v xs) :
  ∃ news : List Value, news.length = xs.length * k /\ (∀ u ∈ news, u.oneCell' = true) /\ Src w v xs.length news /\
   ∀ (w' : World) (base : Nat) (e : TypeId) (v' : Value), Ext w w' -> w'.ownsRow base e k v' xs.length news -> SliceAt P k B w' v' xs := by
 obtain ⟨a, cap, rfl, h2, h3, h4, h5⟩ := h
 by_cases hx : xs = []
 ·subst hx
  refine ⟨[], by simp, by simp, ?_, ?_⟩
  ·rcases a with _ | ad
   ·exact .inl ⟨cap, rfl, rfl, rfl⟩
   ·exact .inr ⟨ad, cap, rfl, by simp⟩
  ·intro w' base e v' _ hown
   rcases hown.2 with ⟨rfl, _⟩ | ⟨g, cap', cur, rfl, _, _, hn, hm, _⟩
   ·exact slice0 _ _ _ _
   ·exact ⟨_, cap', rfl, by simp, hn, hm, fun h => absurd rfl h⟩
 ·obtain ⟨b, off, rfl, hcell⟩ := h5 hx
  have hat : ∀ j, j < xs.length * k -> ∃ u, w.cell? ⟨b, off + j, none⟩ = some u /\ u.oneCell' = true := by
   intro j hj
   have hi : j / k < xs.length := Nat.div_lt_of_lt_mul (by rw [Nat.mul_comm]; exact hj)
   obtain ⟨u, hu⟩ := T.has (hcell (j / k) hi) (j % k) (Nat.mod_lt _ hk)
   rw [Nat.add_assoc, Nat.div_add_mod'] at hu
   exact ⟨u, hu⟩
  obtain ⟨news, hnews⟩ : ∃ news, news = (List.range (xs.length * k)).map (fun j => (w.cell? ⟨b, off + j, none⟩).getD undef) := ⟨_, rfl⟩
  have hlen : news.length = xs.length * k := by rw [hnews]; simp
  have hget : ∀ j u, news[j]? = some u -> j < xs.length * k /\ w.cell? ⟨b, off + j, none⟩ = some u /\ u.oneCell' = true := by
   intro j u hu
   have hj : j < xs.length * k := by
    rw [<- hlen]
    exact (List.getElem?_eq_some_iff.1 hu).1
   obtain ⟨u', e, e1⟩ := hat j hj
   have : news[j]? = some u' := by rw [hnews]; simp [hj, e]
   rw [this] at hu
   injection hu with hu
   subst hu
   exact ⟨hj, e, e1⟩
  refine ⟨news, hlen, ?_, .inr ⟨_, cap, rfl, ?_⟩, ?_⟩
  ·intro u hu
   obtain ⟨j, hj⟩ := List.getElem?_of_mem hu
   exact (hget j u hj).2.2
  ·intro j u hu
   rw [addr_add]
   exact (hget j u hu).2.1
  ·intro w' base e v' hext hown
   have hpos : 0 < xs.length := List.length_pos_iff.2 hx
   obtain ⟨g, cap', rfl, hg, hn, hm⟩ := ownsRow_some hown hpos
   refine ⟨_, cap', rfl, h2, hn, hm, fun _ => ⟨g, 0, rfl, fun i hi => ?_⟩⟩
   refine T.move (hcell i hi) hext (fun j u hj hu => ?_)
   have hlt : i * k + j < xs.length * k := by
    have : (i + 1) * k <= xs.length * k := Nat.mul_le_mul_right _ hi
    rw [Nat.succ_mul] at this
    omega
   rw [Nat.zero_add, hown.cellAt _ hlt, hnews]
   simp [hlt, <- Nat.add_assoc, hu]
theorem own_lower {w : World} {b b' : Nat} {e : TypeId} {size n : Nat} {v : Value} {xs : List Value} (h : w.ownsRow b e size v n xs) (hb : b' <= b) : w.ownsRow b' e size v n xs := by
 refine ⟨h.1, ?_⟩
 rcases h.2 with h | ⟨g, cap, cur, h1, h2, h3⟩
 ·exact .inl h
 ·exact .inr ⟨g, cap, cur, h1, Nat.le_trans hb h2, h3⟩
theorem own_shape {w : World} {b : Nat} {e : TypeId} {size n : Nat} {v : Value} {xs : List Value} (h : w.ownsRow b e size v n xs) : ∃ a cap, v = .slice a n cap := by
 rcases h.2 with ⟨rfl, rfl⟩ | ⟨g, cap, cur, h1, -⟩
 ·exact ⟨_, _, rfl⟩
 ·exact ⟨_, _, h1⟩
def Typed (w : World) (g : Nat) (t : TypeId) : Prop := ∃ cur, w.heap[g]? = some (.cells cur t (0, 0))
theorem own_typed {w : World} {b : Nat} {e : TypeId} {size n : Nat} {v : Value} {xs : List Value} (h : w.ownsRow b e size v n xs) {g : Nat} (hg : v.ownBlock = some g) : Typed w g e := by
 rcases h.2 with ⟨rfl, _⟩ | ⟨g', cap, cur, rfl, _, h3, _⟩
 ·simp [Value.ownBlock] at hg
 ·simp only [Value.ownBlock, Option.some.injEq] at hg
  subst hg
  exact ⟨cur, h3⟩
theorem typed_ne {w : World} {g g' : Nat} {t t' : TypeId} (h : Typed w g t) (h' : Typed w g' t') (hne : t ≠ t') : g ≠ g' := by
 rintro rfl
 obtain ⟨c, h⟩ := h
 obtain ⟨c', h'⟩ := h'
 rw [h] at h'
 injection h' with h'
 injection h' with _ h'
 exact hne h'
theorem own_apart {w w' : World} {b : Nat} {e : TypeId} {size n : Nat} {v : Value} {xs : List Value} (h : w.ownsRow b e size v n xs) {r : Option Nat} {t : TypeId} (hg : w.grownBy w' r) (hr : ∀ g, r = some g -> Typed w g t) (hne : e ≠ t) : w'.ownsRow b e size v n xs := by
 refine h.kept hg ?_
 cases hv : v.ownBlock with
 | none => exact .inl rfl
 | some g =>
  right
  intro hq
  exact typed_ne (own_typed h hv) (hr g hq.symm) hne rfl
theorem typed_apart {w w' : World} {g : Nat} {e : TypeId} {cur : Array Value} (h : w.heap[g]? = some (.cells cur e (0, 0))) {r : Option Nat} {t : TypeId} (hg : w.grownBy w' r) (hr : ∀ g, r = some g -> Typed w g t) (hne : e ≠ t) : w'.heap[g]? = some (.cells cur e (0, 0)) := by
 rw [hg.block g (lt_of_block h) (fun hq => typed_ne ⟨cur, h⟩ (hr g hq.symm) hne rfl)]
 exact h
section
variable {P : Program} (w : World)
theorem run_onto (base : Nat) (t ty e : TypeId) (z : Value) (size bytes : Nat) (ht : P.underlying t = some (.slice e)) (hinfo : (P.info? e).map (fun i => (i.zero, i.size, i.bytes)) = some (some z, size, bytes)) (hzs : z.cells.size = size) (hsz : 0 < size)
  (v : Value) (n : Nat) (xs : List Value) (hown : w.ownsRow base e size v n xs) (x : Value) (m : Nat) (news : List Value) (hx : Src w x m news) (hl : news.length = m * size) (h1 : ∀ u ∈ news, u.oneCell' = true)
  (h63 : n + m <= maxLen) (hbytes : (n + m) * bytes <= 140737488355328) (hbase : base <= w.heap.size) :
  ∃ v' w', (Builtin.append_ #[t, t] ty #[v, x]).run P w = .ok v' w' /\ w'.ownsRow base e size v' (n + m) (xs ++ news) /\ w.grownBy w' v.ownBlock := by
 obtain ⟨i, hi, hz, hsize, hby⟩ := info_parts hinfo
 rcases hx with ⟨c, rfl, rfl, rfl⟩ | ⟨ad, c, rfl, hc⟩
 ·refine ⟨v, w, ?_, by simpa using hown, World.grownBy.refl w _⟩
  rcases hown.2 with ⟨rfl, rfl⟩ | ⟨g, cap, cur, rfl, _, _, hnc, _⟩
  ·simp [Builtin.append_, run_underlying ht, sizeOf, typeInfo, hi, Builtin.lenOf, Builtin.firstCells]
  ·simp [Builtin.append_, run_underlying ht, sizeOf, typeInfo, hi, Builtin.lenOf, Builtin.firstCells, hnc, storeCells]
 ·obtain ⟨v', w', hrun, h2, h3, _⟩ := run_append_own (P := P) w base t ty e i z size bytes ht hi hz hsize hby hzs hsz v n xs hown ad m c news hl hc h1 h63 hbytes hbase
  exact ⟨v', w', hrun, h2, h3⟩
theorem wp_onto {o : Oper} {a : Act} {K : Act -> World -> Prop} {Q : Exit -> Act -> World -> Prop} (s x : Operand) (t : TypeId)
  (ho : o.op = .call { callee := .builtin .append, args := #[s, x], argTypes := #[t, t] })
  (base : Nat) (e : TypeId) (z : Value) (size bytes : Nat) (ht : P.underlying t = some (.slice e)) (hinfo : (P.info? e).map (fun i => (i.zero, i.size, i.bytes)) = some (some z, size, bytes)) (hzs : z.cells.size = size) (hsz : 0 < size)
  (v : Value) (n : Nat) (xs : List Value) (hs : a.eval s = v) (hown : w.ownsRow base e size v n xs) (m : Nat) (news : List Value) (hx : Src w (a.eval x) m news) (hl : news.length = m * size) (h1 : ∀ u ∈ news, u.oneCell' = true)
  (h63 : n + m <= maxLen) (hbytes : (n + m) * bytes <= 140737488355328) (hbase : base <= w.heap.size)
  (h : ∀ v' w', w'.ownsRow base e size v' (n + m) (xs ++ news) -> w.grownBy w' v.ownBlock -> K (a.put o.dst v') w') : o.wp P a w K Q := by
 obtain ⟨v', w', hrun, h2, h3⟩ := run_onto (P := P) w base t o.type e z size bytes ht hinfo hzs hsz v n xs hown _ m news hx hl h1 h63 hbytes hbase
 unfold Oper.wp execOp
 simp only [ho, resolve, invoke, builtin, Sem.run_bind, Sem.run_pure, Result.andThen_ok, List.map_toArray, List.map_cons, List.map_nil, hs, hrun]
 exact h v' w' h2 h3
theorem wpList_onto {ops : Array Oper} {rest : List Oper} {o : Oper} {a : Act} {Q : Exit -> Act -> World -> Prop} (hgd : o.guard = none) (s x : Operand) (t : TypeId)
  (ho : o.op = .call { callee := .builtin .append, args := #[s, x], argTypes := #[t, t] })
  (base : Nat) (e : TypeId) (z : Value) (size bytes : Nat) (ht : P.underlying t = some (.slice e)) (hinfo : (P.info? e).map (fun i => (i.zero, i.size, i.bytes)) = some (some z, size, bytes)) (hzs : z.cells.size = size) (hsz : 0 < size)
  (v : Value) (n : Nat) (xs : List Value) (hs : a.eval s = v) (hown : w.ownsRow base e size v n xs) (m : Nat) (news : List Value) (hx : Src w (a.eval x) m news) (hl : news.length = m * size) (h1 : ∀ u ∈ news, u.oneCell' = true)
  (h63 : n + m <= maxLen) (hbytes : (n + m) * bytes <= 140737488355328) (hbase : base <= w.heap.size)
  (h : ∀ v' w', w'.ownsRow base e size v' (n + m) (xs ++ news) -> w.grownBy w' v.ownBlock -> wpList P ops Q rest (a.put o.dst v') w') : wpList P ops Q (o :: rest) a w :=
 wpList_plain hgd fun _ hK => wp_onto w s x t ho base e z size bytes ht hinfo hzs hsz v n xs hs hown m news hx hl h1 h63 hbytes hbase fun v' w' h2 h3 => hK _ _ (h v' w' h2 h3)
end
theorem own_lit (w : World) (e : TypeId) (size : Nat) : (w.alloc (.cells #[] e)).ownsRow w.heap.size e size (.slice (some ⟨w.heap.size, 0, none⟩) 0 0) 0 [] :=
 ⟨by simp, .inr ⟨w.heap.size, 0, #[], rfl, Nat.le_refl _, blk_new _ _, by omega, by simp [maxLen], by simp, by simp⟩⟩
section
variable {P : Program} {w : World}
theorem append_elem {ops : Array Oper} {rest : List Oper} {o : Oper} {a : Act} {Q : Exit -> Act -> World -> Prop} (hgd : o.guard = none) (s x : Operand) (t : TypeId)
  (ho : o.op = .call { callee := .builtin .append, args := #[s, x], argTypes := #[t, t] })
  (base : Nat) (e : TypeId) (z : Value) (size bytes : Nat) (ht : P.underlying t = some (.slice e)) (hinfo : (P.info? e).map (fun i => (i.zero, i.size, i.bytes)) = some (some z, size, bytes)) (hzs : z.cells.size = size) (hsz : 0 < size)
  (v : Value) (n : Nat) (xs : List Value) (hs : a.eval s = v) (hown : w.ownsRow base e size v n xs)
  (cs : List Value) (B : Nat) (hB : w.heap.size = B) (hx : a.eval x = .slice (some ⟨B, 0, none⟩) 1 1) (hl : cs.length = size) (h1 : cs.all (·.oneCell') = true)
  (h63 : n + 1 <= 9223372036854775807) (hbytes : (n + 1) * bytes <= 140737488355328) (hbase : base <= w.heap.size)
  (h : ∀ v' w', w'.ownsRow base e size v' (n + 1) (xs ++ cs) -> Below base w w' -> (w.alloc (.cells cs.toArray e)).grownBy w' v.ownBlock -> wpList P ops Q rest (a.put o.dst v') w') : wpList P ops Q (o :: rest) a (w.alloc (.cells cs.toArray e)) := by
 subst hB
 obtain ⟨i, hi, hz, hsize, hby⟩ := info_parts hinfo
 have hnew := heap_alloc_new w (.cells cs.toArray e)
 refine wpList_append_own (w := w.alloc (.cells cs.toArray e)) hgd s x t ho base e i z size bytes ht hi hz hsize hby hzs hsz v n xs hs (hown.alloc _) ⟨w.heap.size, 0, none⟩ 1 1 cs hx (by omega) ?_ ?_ (by unfold maxLen; omega) hbytes (by simp; omega) ?_
 ·intro j u hj
  rw [addr_add]
  unfold World.cell?
  simp only [hnew]
  simpa using hj
 ·intro u hu
  exact List.all_eq_true.1 h1 u hu
 ·intro v' w' ho' hg' _
  refine h v' w' ho' ?_ hg'
  exact ((Below.refl base w).alloc hbase _).grown hg' (by simp; omega) (fun k hk => (hown.lt k hk).1)
end
theorem flat_get {α : Type} (cells : α -> List Value) (k : Nat) (hl : ∀ x, (cells x).length = k) : ∀ (xs : List α) (i : Nat) (h : i < xs.length) (j : Nat), j < k -> (xs.flatMap cells)[i * k + j]? = (cells xs[i])[j]?
 | x :: r, 0, _, j, hj => by
  rw [List.flatMap_cons, List.getElem?_append_left (by rw [hl]; omega)]
  simp
 | x :: r, i + 1, h, j, hj => by
  have h' : i < r.length := by simpa using h
  rw [List.flatMap_cons, List.getElem?_append_right (by rw [hl, Nat.succ_mul]; omega), hl]
  rw [show (i + 1) * k + j - k = i * k + j by rw [Nat.succ_mul]; omega]
  exact flat_get cells k hl r i h' j hj
theorem flat_len {α : Type} (cells : α -> List Value) (k : Nat) (hl : ∀ x, (cells x).length = k) (xs : List α) : (xs.flatMap cells).length = xs.length * k := by
 induction xs with
 | nil => simp
 | cons x r ih => rw [List.flatMap_cons, List.length_append, ih, hl, List.length_cons, Nat.succ_mul, Nat.add_comm]
structure Flat {α : Type} (P : World -> Nat -> Nat -> α -> Prop) (k : Nat) (cells : α -> List Value) : Prop where
 pos : 0 < k
 len : ∀ x, (cells x).length = k
 one : ∀ x, ∀ u ∈ cells x, u.oneCell' = true
 of : ∀ W b o x, (∀ j u, (cells x)[j]? = some u -> W.cell? ⟨b, o + j, none⟩ = some u) -> P W b o x
 cell : ∀ W b o x, P W b o x -> ∀ j u, (cells x)[j]? = some u -> W.cell? ⟨b, o + j, none⟩ = some u
theorem Flat.slice {α : Type} {P : World -> Nat -> Nat -> α -> Prop} {k : Nat} {cells : α -> List Value} (F : Flat P k cells) {B base : Nat} {e : TypeId} {W : World} {v : Value} {xs : List α} (h : W.ownsRow base e k v xs.length (xs.flatMap cells)) (hB : xs.length * B <= 140737488351232) : SliceAt P k B W v xs := by
 by_cases hx : xs = []
 ·subst hx
  rcases h.2 with ⟨rfl, _⟩ | ⟨g, cap', cur, rfl, _, _, hn, hm, _⟩
  ·exact slice0 _ _ _ _
  ·exact ⟨_, cap', rfl, by simp, hn, hm, fun h => absurd rfl h⟩
 ·have hpos : 0 < xs.length := List.length_pos_iff.2 hx
  obtain ⟨g, cap', rfl, hg, hn, hm⟩ := ownsRow_some h hpos
  refine ⟨_, cap', rfl, hB, hn, hm, fun _ => ⟨g, 0, rfl, fun i hi => F.of _ _ _ _ (fun j u hu => ?_)⟩⟩
  have hj : j < k := by rw [<- F.len xs[i]]; exact (List.getElem?_eq_some_iff.1 hu).1
  have hlt : i * k + j < xs.length * k := by
   have : (i + 1) * k <= xs.length * k := Nat.mul_le_mul_right _ hi
   rw [Nat.succ_mul] at this
   omega
  rw [Nat.zero_add, h.cellAt _ hlt, flat_get cells k F.len xs i hi j hj]
  exact hu
theorem Flat.src {α : Type} {P : World -> Nat -> Nat -> α -> Prop} {k : Nat} {cells : α -> List Value} (F : Flat P k cells) {B : Nat} {W : World} {v : Value} {xs : List α} (h : SliceAt P k B W v xs) : Src W v xs.length (xs.flatMap cells) := by
 obtain ⟨a, cap, rfl, h2, h3, h4, h5⟩ := h
 by_cases hx : xs = []
 ·subst hx
  rcases a with _ | ad
  ·exact .inl ⟨cap, rfl, rfl, rfl⟩
  ·exact .inr ⟨ad, cap, rfl, by simp⟩
 ·obtain ⟨b, off, rfl, hc⟩ := h5 hx
  refine .inr ⟨_, cap, rfl, fun j u hu => ?_⟩
  have hj : j < xs.length * k := by rw [<- flat_len cells k F.len xs]; exact (List.getElem?_eq_some_iff.1 hu).1
  have hi : j / k < xs.length := Nat.div_lt_of_lt_mul (by rw [Nat.mul_comm]; exact hj)
  have hm := Nat.mod_lt j F.pos
  have he : j / k * k + j % k = j := Nat.div_add_mod' j k
  rw [addr_add]
  have h1 := flat_get cells k F.len xs (j / k) hi (j % k) hm
  rw [he, hu] at h1
  have h2 := F.cell _ _ _ _ (hc (j / k) hi) (j % k) u h1.symm
  rwa [Nat.add_assoc, he] at h2
theorem flat_one {α : Type} {P : World -> Nat -> Nat -> α -> Prop} {k : Nat} {cells : α -> List Value} (F : Flat P k cells) (xs : List α) : ∀ u ∈ xs.flatMap cells, u.oneCell' = true := by
 intro u hu
 obtain ⟨x, -, hx⟩ := List.mem_flatMap.1 hu
 exact F.one x u hx
theorem filter_snoc {α : Type} (p : α -> Bool) (xs : List α) (k : Nat) (h : k < xs.length) : (xs.take (k + 1)).filter p = (xs.take k).filter p ++ (if p xs[k] then [xs[k]] else []) := by
 rw [List.take_succ_eq_append_getElem h, List.filter_append]
 congr 1
 cases hp : p xs[k] <;> simp [hp]
theorem flatInt : Flat IntAt 1 (fun x => [.int .i64 x]) where
 pos := by decide
 len _ := rfl
 one x u hu := by simp at hu; subst hu; rfl
 of W b o x h := h 0 _ rfl
 cell W b o x h j u hu := by
  match j, hu with
  | 0, hu => injection hu with hu; subst hu; exact h
theorem own_set {W : World} {B : Nat} {e : TypeId} {size n cap g : Nat} {xs : List Value} (h : W.ownsRow B e size (.slice (some ⟨g, 0, none⟩) n cap) n xs) (j : Nat) (u : Value) : (W.setCell ⟨g, j, none⟩ u).ownsRow B e size (.slice (some ⟨g, 0, none⟩) n cap) n (xs.set j u) := by
 refine ⟨by rw [List.length_set]; exact h.1, ?_⟩
 rcases h.2 with ⟨h1, -⟩ | ⟨g', cap', cur, h1, h2, h3, h4, h5, h6, h7⟩
 ·cases h1
 ·injection h1 with h1 _ h1'
  injection h1 with h1
  injection h1 with h1
  subst h1; subst h1'
  refine .inr ⟨g, cap, cur.setIfInBounds j u, rfl, h2, blk_set h3 j u, h4, h5, by simpa using h6, ?_⟩
  rw [Array.toList_setIfInBounds, List.take_set, h7]
end Go.Proofs.YtooeeiiiflfckaaGreat
/- A region that draws its order, shown operation by operation: what each yields is told by itself, and no later one breaks it. -/
namespace Go.Proofs.YtooeeiiiflfckaaGreat
open Go.RowKit
def putAll : List (Option Tmp) -> Nat -> (Nat -> Value) -> Act -> Act
 | [], _, _, a => a
 | d :: r, i, vs, a => putAll r (i + 1) vs (a.put d (vs i))
def upd (vs : Nat -> Value) (i : Nat) (v : Value) : Nat -> Value := fun j => if j = i then v else vs j
theorem put_twice (a : Act) (d : Option Tmp) (u v : Value) : (a.put d u).put d v = a.put d v := by
 cases d with
 | none => rfl
 | some d => simp [Act.put]
theorem put_swap (a : Act) (d e : Tmp) (u v : Value) (h : d ≠ e) : (a.put (some d) u).put (some e) v = (a.put (some e) v).put (some d) u := by
 simp only [Act.put, Act.mk.injEq, and_true]
 exact Array.setIfInBounds_comm _ _ h
theorem put_past (r : List (Option Tmp)) : ∀ (i : Nat) (vs : Nat -> Value) (a : Act) (d : Tmp) (v : Value), some d ∉ r -> (putAll r i vs a).put (some d) v = putAll r i vs (a.put (some d) v) := by
 induction r with
 | nil => intros; rfl
 | cons e r ih =>
  intro i vs a d v h
  simp only [List.mem_cons, not_or] at h
  unfold putAll
  rw [ih _ _ _ _ _ h.2]
  cases e with
  | none => rfl
  | some e => rw [put_swap _ _ _ _ _ (fun q => h.1 (by rw [q]))]
theorem putAll_congr (r : List (Option Tmp)) : ∀ (i : Nat) (vs us : Nat -> Value) (a : Act), (∀ j, i <= j -> vs j = us j) -> putAll r i vs a = putAll r i us a := by
 induction r with
 | nil => intros; rfl
 | cons e r ih =>
  intro i vs us a h
  unfold putAll
  rw [h i (Nat.le_refl _)]
  exact ih _ _ _ _ (fun j hj => h j (by omega))
def apart1 : List (Option Tmp) -> Bool
 | [] => true
 | none :: r => apart1 r
 | some d :: r => !r.contains (some d) && apart1 r
theorem put_mid (r : List (Option Tmp)) : ∀ (k i : Nat) (vs : Nat -> Value) (a : Act) (d : Option Tmp) (v : Value), apart1 r = true -> r[i]? = some d -> (putAll r k vs a).put d v = putAll r k (upd vs (k + i) v) a := by
 induction r with
 | nil => intro k i vs a d v _ h; simp at h
 | cons e r ih =>
  intro k i vs a d v ha h
  cases i with
  | zero =>
   simp only [List.getElem?_cons_zero, Option.some.injEq] at h
   subst h
   unfold putAll
   have hu : upd vs k v k = v := by simp [upd]
   show (putAll r (k + 1) vs (a.put e (vs k))).put e v = putAll r (k + 1) (upd vs k v) (a.put e (upd vs k v k))
   rw [hu, putAll_congr r (k + 1) (upd vs k v) vs _ (fun j hj => by unfold upd; rw [if_neg (by omega)])]
   cases e with
   | none => rfl
   | some e =>
    simp only [apart1, Bool.and_eq_true, Bool.not_eq_true'] at ha
    rw [put_past _ _ _ _ _ _ (by simpa using ha.1), put_twice]
  | succ i =>
   simp only [List.getElem?_cons_succ] at h
   unfold putAll
   have hu : upd vs (k + (i + 1)) v k = vs k := by unfold upd; rw [if_neg (by omega)]
   have ha' : apart1 r = true := by
    cases e with
    | none => exact ha
    | some e => simp only [apart1, Bool.and_eq_true] at ha; exact ha.2
   rw [hu, ih (k + 1) i vs _ d v ha' h]
   congr 2
   omega
theorem putAll_same (r : List (Option Tmp)) : ∀ (i : Nat) (vs : Nat -> Value) (a : Act), (∀ j d, r[j]? = some (some d) -> vs (i + j) = a.tmps.getD d undef) -> putAll r i vs a = a := by
 induction r with
 | nil => intros; rfl
 | cons e r ih =>
  intro i vs a h
  unfold putAll
  have h0 : a.put e (vs i) = a := by
   cases e with
   | none => rfl
   | some d =>
    have := h 0 d rfl
    rw [Nat.add_zero] at this
    rw [this]
    unfold Act.put
    simp only
    congr 1
    apply Array.ext (by simp)
    intro j h1 h2
    rw [Array.getElem_setIfInBounds]
    split
    ·subst_vars
     simp [Array.getD, h2]
    ·rfl
  rw [h0]
  exact ih _ _ _ (fun j d hj => by
   have := h (j + 1) d (by simpa using hj)
   rw [<- this]
   congr 1
   omega)
def needs (o : Oper) (j : Nat) : Bool := o.after.toList.any fun e => Region.binds .any e && e.on == j
section
variable {P : Program} {Q : Exit -> Act -> World -> Prop}
def Each (P : Program) (Q : Exit -> Act -> World -> Prop) (L : List Oper) (U : Nat -> Option Nat) (V : Nat -> Value -> World -> Prop) (iu : Nat) (G : Bool -> World -> Prop) (mk : (Nat -> Value) -> Act) : List Oper -> Nat -> Prop
 | [], _ => True
 | o :: r, i => (∀ vs W b, (i = iu -> b = true) -> (∀ q, L[iu]? = some q -> needs q i = true -> b = true) -> G b W -> (∀ j, needs o j = true -> (U j = none ∨ U j = some i) -> V j (vs j) W) -> ∀ K' : Act -> World -> Prop, (∀ v W', G (if i = iu then false else b) W' -> (∀ j u, j ≠ i -> U j ≠ some i -> (∀ q, L[j]? = some q -> needs q i = false) -> V j u W -> V j u W') -> V i v W' -> K' ((mk vs).put o.dst v) W') -> Oper.wp P o (mk vs) W K' Q) /\ Each P Q L U V iu G mk r (i + 1)
theorem Each.get {L : List Oper} {U : Nat -> Option Nat} {V : Nat -> Value -> World -> Prop} {iu : Nat} {G : Bool -> World -> Prop} {mk : (Nat -> Value) -> Act} {l : List Oper} : ∀ {k : Nat}, Each P Q L U V iu G mk l k -> ∀ i o, l[i]? = some o ->
  ∀ vs W b, (k + i = iu -> b = true) -> (∀ q, L[iu]? = some q -> needs q (k + i) = true -> b = true) -> G b W -> (∀ j, needs o j = true -> (U j = none ∨ U j = some (k + i)) -> V j (vs j) W) -> ∀ K' : Act -> World -> Prop, (∀ v W', G (if k + i = iu then false else b) W' -> (∀ j u, j ≠ k + i -> U j ≠ some (k + i) -> (∀ q, L[j]? = some q -> needs q (k + i) = false) -> V j u W -> V j u W') -> V (k + i) v W' -> K' ((mk vs).put o.dst v) W') -> Oper.wp P o (mk vs) W K' Q := by
 induction l with
 | nil => intro k _ i o h; simp at h
 | cons e l ih =>
  intro k hE i o h
  cases i with
  | zero =>
   simp only [List.getElem?_cons_zero, Option.some.injEq] at h
   subst h
   exact hE.1
  | succ i =>
   have := ih hE.2 i o (by simpa using h)
   rw [Nat.add_assoc, Nat.add_comm 1 i] at this
   exact this
def eachShape (l : List Oper) (last : Oper) : Bool :=
 (l ++ [last]).all (fun o => o.guard.isNone) && apart1 (l.map (·.dst)) &&
 (List.range l.length).all (fun i => needs last i || (List.range l.length).any (fun j => needs last j && (match l[j]? with | some o => needs o i | none => false))) &&
 (List.range (l.length + 1)).all (fun i => match (l ++ [last])[i]? with | some o => o.after.all fun e => !Region.binds .any e || decide (e.on < i) | none => true)
theorem wanted_of {o : Oper} {y : Nat -> Option Bool} (h : o.guard.isNone = true) : Region.wanted o y = true := by
 unfold Region.wanted
 cases hg : o.guard with
 | none => rfl
 | some g => rw [hg] at h; simp at h
theorem region_each {l : List Oper} {last : Oper} {id : Nat} {a : Act} {w : World} (hm : P.follows .mixedOrders = true) (hsh : eachShape l last = true)
  (U : Nat -> Option Nat) (V : Nat -> Value -> World -> Prop) (iu : Nat) (G : Bool -> World -> Prop) (h0 : G (decide (iu < l.length)) w.drew)
  (hE : Each P Q l U V iu G (fun vs => putAll (l.map (·.dst)) 0 vs a) l 0)
  (hL : ∀ vs W, G false W -> (∀ i, i < l.length -> U i = none -> V i (vs i) W) -> Oper.wp P last (putAll (l.map (·.dst)) 0 vs a) W (fun a' W' => Q .normal a' W') Q) :
  (Code.region id (l ++ [last]).toArray true).wp P Q a w := by
 simp only [eachShape, Bool.and_eq_true, List.all_eq_true, List.mem_range] at hsh
 obtain ⟨⟨⟨hg, hap⟩, hcov⟩, hback⟩ := hsh
 obtain ⟨ops, hops⟩ : ∃ ops, ops = (l ++ [last]).toArray := ⟨_, rfl⟩
 have hsz : ops.size = l.length + 1 := by rw [hops]; simp
 have hat : ∀ i : Nat, ops[i]? = (l ++ [last])[i]? := by intro i; rw [hops]; simp
 rw [<- hops]
 refine wp_region_any hm ?_
 let Inv : Array Bool -> Act -> World -> Prop := fun listed a' W => listed.size = l.length + 1 /\ (∀ (j : Nat) (o : Oper), l[j]? = some o -> listed[j]? = some true -> ∀ k : Nat, needs o k = true -> listed[k]? = some true) /\
  ((listed[l.length]? = some false /\ ∃ vs, a' = putAll (l.map (·.dst)) 0 vs a /\ G (decide (iu < l.length /\ listed[iu]? = some false)) W /\ ∀ i, i < l.length -> listed[i]? = some true -> (∀ k, U i = some k -> listed[k]? = some false) -> V i (vs i) W) ∨ ((∀ i, i < l.length + 1 -> listed[i]? = some true) /\ Q .normal a' W))
 have hstep : ∀ listed a' W i, Inv listed a' W -> i ∈ Region.ready .any ops listed -> listed[i]? = some false /\ wpOp P ops Q i (Inv (listed.setIfInBounds i true)) a' W := by
  intro listed a' W i hI hi
  simp only [Region.ready, List.mem_filter, List.mem_range, Bool.and_eq_true, Bool.not_eq_true'] at hi
  obtain ⟨hi1, hi2, hi3⟩ := hi
  obtain ⟨hs, hcl, hI⟩ := hI
  have hli : listed[i]? = some false := by
   have hlt : i < listed.size := by omega
   rw [Array.getElem?_eq_getElem hlt]
   simp only [Array.getD, hlt, dite_true] at hi2
   rw [<- hi2]
   rfl
  refine ⟨hli, ?_⟩
  rcases hI with ⟨hn, vs, rfl, hG, hV⟩ | ⟨hall, hQ⟩
  ·have hget : ∃ o, ops[i]? = some o := ⟨ops[i], Array.getElem?_eq_getElem hi1⟩
   obtain ⟨o, ho⟩ := hget
   rw [ho] at hi3
   simp only [Option.map_some, Option.getD_some, Array.all_eq_true', Bool.or_eq_true, Bool.not_eq_true'] at hi3
   have ho' := ho
   rw [hat] at ho'
   have hmem : o ∈ l ++ [last] := List.mem_of_getElem? ho'
   have hneeds : ∀ j, needs o j = true -> listed[j]? = some true := by
    intro j hj
    simp only [needs, List.any_eq_true, Array.mem_toList_iff, Bool.and_eq_true, beq_iff_eq] at hj
    obtain ⟨e, he, hb, rfl⟩ := hj
    rcases hi3 e he with h | h
    ·rw [hb] at h; simp at h
    ·unfold Array.getD at h
     split at h
     ·rename_i hlt
      rw [Array.getElem?_eq_getElem hlt]
      exact congrArg some h
     ·simp at h
   have hclo : ∀ (j : Nat) (q : Oper), l[j]? = some q -> (listed.setIfInBounds i true)[j]? = some true -> ∀ k : Nat, needs q k = true -> (listed.setIfInBounds i true)[k]? = some true := by
    intro j q hq hj k hk
    by_cases e : k = i
    ·subst e; rw [Array.getElem?_setIfInBounds, if_pos rfl, if_pos (by omega)]
    ·rw [Array.getElem?_setIfInBounds_ne (fun h => e h.symm)]
     by_cases e2 : j = i
     ·subst e2
      have hjl : j < l.length := (List.getElem?_eq_some_iff.1 hq).1
      rw [List.getElem?_append_left hjl, hq] at ho'
      injection ho' with ho'
      subst ho'
      exact hneeds k hk
     ·rw [Array.getElem?_setIfInBounds_ne (fun h => e2 h.symm)] at hj
      exact hcl j q hq hj k hk
   unfold wpOp
   rw [ho]
   simp only
   rw [if_pos (wanted_of (hg o hmem))]
   left
   by_cases hil : i < l.length
   ·have hol : l[i]? = some o := by rw [List.getElem?_append_left hil] at ho'; exact ho'
    refine hE.get i o hol vs W _ (fun e => ?_) (fun q hq hn2 => ?_) hG (fun j hj hu => hV j ?_ (hneeds j hj) (fun k hk => by
     rw [Nat.zero_add] at hu
     rcases hu with hu | hu
     ·rw [hu] at hk; simp at hk
     ·rw [hu] at hk; injection hk with hk; subst hk; exact hli)) _ ?_
    ·rw [Nat.zero_add] at e
     subst e
     exact decide_eq_true ⟨hil, hli⟩
    ·rw [Nat.zero_add] at hn2
     have hlu : iu < l.length := (List.getElem?_eq_some_iff.1 hq).1
     refine decide_eq_true ⟨hlu, ?_⟩
     have hus : iu < listed.size := by omega
     rw [Array.getElem?_eq_getElem hus]
     cases hb7 : listed[iu] with
     | false => rfl
     | true =>
      have := hcl iu q hq (by rw [Array.getElem?_eq_getElem hus, hb7]) i hn2
      rw [hli] at this
      simp at this
    ·simp only [needs, List.any_eq_true, Array.mem_toList_iff, Bool.and_eq_true, beq_iff_eq] at hj
     obtain ⟨e, he, hb, rfl⟩ := hj
     have := hback i (by omega)
     rw [ho'] at this
     simp only [Array.all_eq_true', decide_eq_true_eq, Bool.or_eq_true, Bool.not_eq_true'] at this
     have := (this e he).resolve_left (by rw [hb]; decide)
     omega
    ·intro v W' hG' hst hv
     rw [Nat.zero_add] at hst hv hG'
     have hG2 : G (decide (iu < l.length /\ (listed.setIfInBounds i true)[iu]? = some false)) W' := by
      by_cases e : i = iu
      ·subst e
       rw [if_pos rfl] at hG'
       rw [decide_eq_false]
       ·exact hG'
       ·rintro ⟨-, h7⟩
        rw [Array.getElem?_setIfInBounds, if_pos rfl, if_pos (by omega)] at h7
        simp at h7
      ·rw [if_neg e] at hG'
       rw [Array.getElem?_setIfInBounds_ne e]
       exact hG'
     refine ⟨by simpa using hs, hclo, .inl ⟨?_, upd vs i v, ?_, hG2, ?_⟩⟩
     ·rw [Array.getElem?_setIfInBounds_ne (by omega)]; exact hn
     ·have := put_mid (l.map (·.dst)) 0 i vs a o.dst v hap (by simp [hol])
      rw [Nat.zero_add] at this
      exact this
     ·intro j hj hlj hkj
      by_cases e : j = i
      ·subst e; simpa [upd] using hv
      ·rw [Array.getElem?_setIfInBounds_ne (fun h => e h.symm)] at hlj
       unfold upd
       rw [if_neg e]
       have hji : U j ≠ some i := fun hu => by
        have h7 := hkj i hu
        rw [Array.getElem?_setIfInBounds, if_pos rfl, if_pos (by omega)] at h7
        simp at h7
       refine hst j _ e hji (fun q hq => ?_) (hV j hj hlj (fun k hk => ?_))
       ·cases hn2 : needs q i with
        | false => rfl
        | true =>
         have := hcl j q hq hlj i hn2
         rw [hli] at this
         simp at this
       have hki : k ≠ i := fun h => hji (by rw [hk, h])
       have := hkj k hk
       rw [Array.getElem?_setIfInBounds_ne (fun h => hki h.symm)] at this
       exact this
   ·obtain rfl : i = l.length := by omega
    have hol : o = last := by
     rw [List.getElem?_append_right (Nat.le_refl _)] at ho'
     simpa using ho'.symm
    subst hol
    have hcv : ∀ j, j < l.length -> listed[j]? = some true := by
     intro j hj
     have h := hcov j hj
     simp only [Bool.or_eq_true, List.any_eq_true, List.mem_range, Bool.and_eq_true] at h
     rcases h with h | ⟨m, hm, h1, h2⟩
     ·exact hneeds j h
     ·cases hlm : l[m]? with
      | none => rw [hlm] at h2; cases h2
      | some om => rw [hlm] at h2; exact hcl m om hlm (hneeds m h1) j h2
    refine Oper.wp_mono (fun a' W' hQ => ?_) (hL vs W (by rw [decide_eq_false] at hG; (· exact hG); (rintro ⟨h8, h9⟩; rw [hcv iu h8] at h9; simp at h9)) (fun j hj hu => hV j hj (hcv j hj) (fun k hk => by rw [hu] at hk; simp at hk)))
    refine ⟨by simpa using hs, hclo, .inr ⟨fun j hj => ?_, hQ⟩⟩
    by_cases e : j = l.length
    ·subst e; simp [hs]
    ·rw [Array.getElem?_setIfInBounds_ne (fun h => e h.symm)]
     exact hcv j (by omega)
  ·rw [hall i (by omega)] at hli
   simp at hli
 have hend : ∀ listed a' W, Inv listed a' W -> Region.ready .any ops listed = [] -> Q .normal a' W := by
  intro listed a' W hI hr
  obtain ⟨hs, -, ⟨hn, -⟩ | ⟨-, hQ⟩⟩ := hI
  ·exfalso
   have key : ∀ i, i < l.length + 1 -> listed[i]? = some true := by
    intro i
    induction i using Nat.strongRecOn with
    | ind i ih =>
     intro hi
     have hlt : i < listed.size := by omega
     rw [Array.getElem?_eq_getElem hlt]
     cases hb : listed[i] with
     | true => rfl
     | false =>
      exfalso
      have : i ∈ Region.ready .any ops listed := by
       simp only [Region.ready, List.mem_filter, List.mem_range, Bool.and_eq_true, Bool.not_eq_true']
       have hio : i < ops.size := by omega
       refine ⟨hio, by simp [Array.getD, hlt, hb], ?_⟩
       rw [Array.getElem?_eq_getElem hio]
       simp only [Option.map_some, Option.getD_some, Array.all_eq_true', Bool.or_eq_true, Bool.not_eq_true']
       intro e he
       by_cases hbd : Region.binds .any e = true
       rotate_left
       ·exact .inl (by simpa using hbd)
       right
       have hb1 := hback i hi
       rw [<- hat, Array.getElem?_eq_getElem hio] at hb1
       simp only [Array.all_eq_true', decide_eq_true_eq, Bool.or_eq_true, Bool.not_eq_true'] at hb1
       have h1 := (hb1 e he).resolve_left (by rw [hbd]; decide)
       have h2 := ih e.on h1 (by omega)
       have h3 : e.on < listed.size := by omega
       rw [Array.getElem?_eq_getElem h3] at h2
       simp only [Array.getD, h3, dite_true]
       injection h2
      rw [hr] at this
      simp at this
   rw [key _ (by omega)] at hn
   simp at hn
  ·exact hQ
 have main : ∀ fuel listed a' W, listed.toList.countP (· == false) <= fuel -> Inv listed a' W -> wpAny P .any ops Q fuel listed a' W := by
  intro fuel
  induction fuel with
  | zero =>
   intro listed a' W hc hI
   have hr : Region.ready .any ops listed = [] := by
    rw [List.eq_nil_iff_forall_not_mem]
    intro i hi
    have := (hstep listed a' W i hI hi).1
    have hp : 0 < listed.toList.countP (· == false) := List.countP_pos_iff.2 ⟨false, List.mem_of_getElem? (i := i) (by simpa using this), rfl⟩
    omega
   exact ⟨hr, hend _ _ _ hI hr⟩
  | succ fuel ih =>
   intro listed a' W hc hI
   refine ⟨fun hr => hend _ _ _ hI hr, fun i hi => ?_⟩
   obtain ⟨h1, h2⟩ := hstep listed a' W i hI hi
   refine wpOp_mono (fun a2 W2 h => ih _ _ _ ?_ h) h2
   have hlt : i < listed.toList.length := by
    rcases Nat.lt_or_ge i listed.toList.length with h | h
    ·exact h
    ·exfalso
     have : listed.size <= i := by simpa using h
     rw [Array.getElem?_eq_none this] at h1
     simp at h1
   have hli : listed.toList[i] = false := by
    have : listed.toList[i]? = some false := by simpa using h1
    rw [List.getElem?_eq_getElem hlt] at this
    injection this
   rw [Array.toList_setIfInBounds, List.countP_set hlt, hli]
   show listed.toList.countP (· == false) - 1 + 0 <= fuel
   omega
 refine main _ _ _ _ ?_ ?_
 ·have := List.countP_le_length (p := (· == false)) (l := (Array.replicate ops.size false).toList)
  simpa using this
 ·refine ⟨by simp [hsz], fun j o _ hj => by (rw [hsz, Array.getElem?_replicate] at hj; split at hj <;> simp at hj), .inl ⟨by simp [hsz], fun i => match (l.map (·.dst))[i]? with | some (some d) => a.tmps.getD d undef | _ => undef, ?_, ?_, ?_⟩⟩
  ·rw [putAll_same]
   intro j d hj
   simp only [Nat.zero_add, hj]
  ·rw [decide_eq_decide.2 (show (iu < l.length /\ (Array.replicate ops.size false)[iu]? = some false) ↔ iu < l.length from ⟨fun h => h.1, fun h => ⟨h, by rw [hsz, Array.getElem?_replicate, if_pos (by omega)]⟩⟩)]
   exact h0
  ·intro i hi h _
   rw [hsz, Array.getElem?_replicate] at h
   split at h <;> simp at h
theorem region_each_lit {ops : List Oper} {id : Nat} {a : Act} {w : World} (hm : P.follows .mixedOrders = true) (hne : ops ≠ []) (hsh : eachShape ops.dropLast (ops.getLast hne) = true)
  (U : Nat -> Option Nat) (V : Nat -> Value -> World -> Prop) (iu : Nat) (G : Bool -> World -> Prop) (h0 : G (decide (iu < ops.dropLast.length)) w.drew)
  (hE : Each P Q ops.dropLast U V iu G (fun vs => putAll (ops.dropLast.map (·.dst)) 0 vs a) ops.dropLast 0)
  (hL : ∀ vs W, G false W -> (∀ i, i < ops.dropLast.length -> U i = none -> V i (vs i) W) -> Oper.wp P (ops.getLast hne) (putAll (ops.dropLast.map (·.dst)) 0 vs a) W (fun a' W' => Q .normal a' W') Q) :
  (Code.region id ops.toArray true).wp P Q a w := by
 have := region_each (id := id) (w := w) hm hsh U V iu G h0 hE hL
 rw [List.dropLast_concat_getLast hne] at this
 exact this
end
end Go.Proofs.YtooeeiiiflfckaaGreat
/- A region that draws its order, shown by an invariant over what has run as yet; guards are borne. -/
namespace Go.Proofs.YtooeeiiiflfckaaGreat
open Go.RowKit
def updB (L : Nat -> Bool) (i : Nat) : Nat -> Bool := fun j => if j = i then true else L j
section
variable {P : Program} {Q : Exit -> Act -> World -> Prop}
def InvE (P : Program) (Q : Exit -> Act -> World -> Prop) (ops : List Oper) (Inv : (Nat -> Bool) -> (Nat -> Value) -> World -> Prop) (mk : (Nat -> Value) -> Act) : List Oper -> Nat -> Prop
 | [], _ => True
 | o :: r, i => (∀ L vs W, Inv L vs W -> L i = false -> (∀ j, needs o j = true -> L j = true) -> (∀ j q, ops[j]? = some q -> L j = true -> ∀ k, needs q k = true -> L k = true) -> ∀ K : Act -> World -> Prop, (∀ v W', Inv (updB L i) (upd vs i v) W' -> K ((mk vs).put o.dst v) W') -> if Region.wanted o (yielded ops.toArray (mk vs).tmps) = true then Oper.wp P o (mk vs) W K Q else K ((mk vs).put o.dst undef) W) /\ InvE P Q ops Inv mk r (i + 1)
theorem InvE.get {ops : List Oper} {Inv : (Nat -> Bool) -> (Nat -> Value) -> World -> Prop} {mk : (Nat -> Value) -> Act} {l : List Oper} : ∀ {k : Nat}, InvE P Q ops Inv mk l k -> ∀ i o, l[i]? = some o ->
  ∀ L vs W, Inv L vs W -> L (k + i) = false -> (∀ j, needs o j = true -> L j = true) -> (∀ j q, ops[j]? = some q -> L j = true -> ∀ k, needs q k = true -> L k = true) -> ∀ K : Act -> World -> Prop, (∀ v W', Inv (updB L (k + i)) (upd vs (k + i) v) W' -> K ((mk vs).put o.dst v) W') -> if Region.wanted o (yielded ops.toArray (mk vs).tmps) = true then Oper.wp P o (mk vs) W K Q else K ((mk vs).put o.dst undef) W := by
 induction l with
 | nil => intro k _ i o h; simp at h
 | cons e l ih =>
  intro k hE i o h
  cases i with
  | zero =>
   simp only [List.getElem?_cons_zero, Option.some.injEq] at h
   subst h
   exact hE.1
  | succ i =>
   have := ih hE.2 i o (by simpa using h)
   rw [Nat.add_assoc, Nat.add_comm 1 i] at this
   exact this
def invShape (l : List Oper) : Bool :=
 apart1 (l.map (·.dst)) && (List.range l.length).all (fun i => match l[i]? with | some o => o.after.all fun e => !Region.binds .any e || decide (e.on < i) | none => true)
def ranB (listed : Array Bool) : Nat -> Bool := fun i => decide (listed[i]? = some true)
theorem region_inv {ops : List Oper} {id : Nat} {a : Act} {w : World} (hm : P.follows .mixedOrders = true) (hsh : invShape ops = true)
  (Inv : (Nat -> Bool) -> (Nat -> Value) -> World -> Prop) (h0 : ∀ vs, Inv (fun _ => false) vs w.drew)
  (hE : InvE P Q ops Inv (fun vs => putAll (ops.map (·.dst)) 0 vs a) ops 0)
  (hend : ∀ vs W, Inv (fun i => decide (i < ops.length)) vs W -> Q .normal (putAll (ops.map (·.dst)) 0 vs a) W) :
  (Code.region id ops.toArray true).wp P Q a w := by
 simp only [invShape, Bool.and_eq_true, List.all_eq_true, List.mem_range] at hsh
 obtain ⟨hap, hback⟩ := hsh
 obtain ⟨arr, harr⟩ : ∃ arr, arr = ops.toArray := ⟨_, rfl⟩
 have hsz : arr.size = ops.length := by rw [harr]; simp
 have hat : ∀ i : Nat, arr[i]? = ops[i]? := by intro i; rw [harr]; simp
 have harr' : ops.toArray = arr := harr.symm
 rw [harr']
 refine wp_region_any hm ?_
 let J : Array Bool -> Act -> World -> Prop := fun listed a' W => listed.size = ops.length /\ (∀ (j : Nat) (o : Oper), ops[j]? = some o -> ranB listed j = true -> ∀ k : Nat, needs o k = true -> ranB listed k = true) /\
  ∃ vs, a' = putAll (ops.map (·.dst)) 0 vs a /\ Inv (ranB listed) vs W
 have hstep : ∀ listed a' W i, J listed a' W -> i ∈ Region.ready .any arr listed -> listed[i]? = some false /\ wpOp P arr Q i (J (listed.setIfInBounds i true)) a' W := by
  intro listed a' W i hI hi
  simp only [Region.ready, List.mem_filter, List.mem_range, Bool.and_eq_true, Bool.not_eq_true'] at hi
  obtain ⟨hi1, hi2, hi3⟩ := hi
  obtain ⟨hs, hcl, vs, rfl, hI⟩ := hI
  have hli : listed[i]? = some false := by
   have hlt : i < listed.size := by omega
   rw [Array.getElem?_eq_getElem hlt]
   simp only [Array.getD, hlt, dite_true] at hi2
   rw [<- hi2]
   rfl
  refine ⟨hli, ?_⟩
  obtain ⟨o, ho⟩ : ∃ o, arr[i]? = some o := ⟨arr[i], Array.getElem?_eq_getElem hi1⟩
  rw [ho] at hi3
  simp only [Option.map_some, Option.getD_some, Array.all_eq_true', Bool.or_eq_true, Bool.not_eq_true'] at hi3
  have ho' := ho
  rw [hat] at ho'
  have hneeds : ∀ j, needs o j = true -> ranB listed j = true := by
   intro j hj
   simp only [needs, List.any_eq_true, Array.mem_toList_iff, Bool.and_eq_true, beq_iff_eq] at hj
   obtain ⟨e, he, hb, rfl⟩ := hj
   unfold ranB
   rw [decide_eq_true_iff]
   rcases hi3 e he with h | h
   ·rw [hb] at h; simp at h
   ·unfold Array.getD at h
    split at h
    ·rename_i hlt
     rw [Array.getElem?_eq_getElem hlt]
     exact congrArg some h
    ·simp at h
  have hran : ranB (listed.setIfInBounds i true) = updB (ranB listed) i := by
   funext j
   unfold ranB updB
   by_cases e : j = i
   ·subst e
    rw [if_pos rfl, Array.getElem?_setIfInBounds, if_pos rfl, if_pos (by omega)]
    simp
   ·rw [if_neg e, Array.getElem?_setIfInBounds_ne (fun h => e h.symm)]
  have hclo : ∀ (j : Nat) (q : Oper), ops[j]? = some q -> ranB (listed.setIfInBounds i true) j = true -> ∀ k : Nat, needs q k = true -> ranB (listed.setIfInBounds i true) k = true := by
   intro j q hq hj k hk
   rw [hran] at hj |-
   unfold updB at hj |-
   by_cases e : k = i
   ·rw [if_pos e]
   ·rw [if_neg e]
    by_cases e2 : j = i
    ·subst e2
     rw [hq] at ho'
     injection ho' with ho'
     subst ho'
     exact hneeds k hk
    ·rw [if_neg e2] at hj
     exact hcl j q hq hj k hk
  have hone := hE.get i o ho' (ranB listed) vs W hI (by rw [Nat.zero_add]; unfold ranB; rw [hli]; simp) hneeds hcl (J (listed.setIfInBounds i true)) (fun v W' hI' => by
   rw [Nat.zero_add] at hI'
   refine ⟨by simpa using hs, hclo, upd vs i v, ?_, by rw [hran]; exact hI'⟩
   have := put_mid (ops.map (·.dst)) 0 i vs a o.dst v hap (by simp [ho'])
   rw [Nat.zero_add] at this
   exact this)
  rw [harr'] at hone
  unfold wpOp
  rw [ho]
  simp only
  split at hone
  ·rename_i hw
   rw [if_pos hw]
   exact .inl hone
  ·rename_i hw
   rw [if_neg hw]
   exact hone
 have hdone : ∀ listed a' W, J listed a' W -> Region.ready .any arr listed = [] -> Q .normal a' W := by
  intro listed a' W hI hr
  obtain ⟨hs, -, vs, rfl, hI⟩ := hI
  have key : ∀ i, i < ops.length -> listed[i]? = some true := by
   intro i
   induction i using Nat.strongRecOn with
   | ind i ih =>
    intro hi
    have hlt : i < listed.size := by omega
    rw [Array.getElem?_eq_getElem hlt]
    cases hb : listed[i] with
    | true => rfl
    | false =>
     exfalso
     have : i ∈ Region.ready .any arr listed := by
      simp only [Region.ready, List.mem_filter, List.mem_range, Bool.and_eq_true, Bool.not_eq_true']
      have hio : i < arr.size := by omega
      refine ⟨hio, by simp [Array.getD, hlt, hb], ?_⟩
      rw [Array.getElem?_eq_getElem hio]
      simp only [Option.map_some, Option.getD_some, Array.all_eq_true', Bool.or_eq_true, Bool.not_eq_true']
      intro e he
      by_cases hbd : Region.binds .any e = true
      rotate_left
      ·exact .inl (by simpa using hbd)
      right
      have hb1 := hback i hi
      rw [<- hat, Array.getElem?_eq_getElem hio] at hb1
      simp only [Array.all_eq_true', decide_eq_true_eq, Bool.or_eq_true, Bool.not_eq_true'] at hb1
      have h1 := (hb1 e he).resolve_left (by rw [hbd]; decide)
      have h2 := ih e.on h1 (by omega)
      have h3 : e.on < listed.size := by omega
      rw [Array.getElem?_eq_getElem h3] at h2
      simp only [Array.getD, h3, dite_true]
      injection h2
     rw [hr] at this
     simp at this
  refine hend vs W ?_
  have : ranB listed = fun i => decide (i < ops.length) := by
   funext i
   unfold ranB
   rw [decide_eq_decide]
   constructor
   ·intro h
    have := (Array.getElem?_eq_some_iff.1 h).1
    omega
   ·exact key i
  rw [<- this]
  exact hI
 have main : ∀ fuel listed a' W, listed.toList.countP (· == false) <= fuel -> J listed a' W -> wpAny P .any arr Q fuel listed a' W := by
  intro fuel
  induction fuel with
  | zero =>
   intro listed a' W hc hI
   have hr : Region.ready .any arr listed = [] := by
    rw [List.eq_nil_iff_forall_not_mem]
    intro i hi
    have := (hstep listed a' W i hI hi).1
    have hp : 0 < listed.toList.countP (· == false) := List.countP_pos_iff.2 ⟨false, List.mem_of_getElem? (i := i) (by simpa using this), rfl⟩
    omega
   exact ⟨hr, hdone _ _ _ hI hr⟩
  | succ fuel ih =>
   intro listed a' W hc hI
   refine ⟨fun hr => hdone _ _ _ hI hr, fun i hi => ?_⟩
   obtain ⟨h1, h2⟩ := hstep listed a' W i hI hi
   refine wpOp_mono (fun a2 W2 h => ih _ _ _ ?_ h) h2
   have hlt : i < listed.toList.length := by
    rcases Nat.lt_or_ge i listed.toList.length with h | h
    ·exact h
    ·exfalso
     have : listed.size <= i := by simpa using h
     rw [Array.getElem?_eq_none this] at h1
     simp at h1
   have hli : listed.toList[i] = false := by
    have : listed.toList[i]? = some false := by simpa using h1
    rw [List.getElem?_eq_getElem hlt] at this
    injection this
   rw [Array.toList_setIfInBounds, List.countP_set hlt, hli]
   show listed.toList.countP (· == false) - 1 + 0 <= fuel
   omega
 refine main _ _ _ _ ?_ ?_
 ·have := List.countP_le_length (p := (· == false)) (l := (Array.replicate arr.size false).toList)
  simpa using this
 ·have hz : ranB (Array.replicate arr.size false) = fun _ => false := by
   funext i
   unfold ranB
   rw [Array.getElem?_replicate]
   split <;> simp
  refine ⟨by simp [hsz], fun j o _ hj => by (rw [hz] at hj; cases hj), fun i => match (ops.map (·.dst))[i]? with | some (some d) => a.tmps.getD d undef | _ => undef, ?_, ?_⟩
  ·rw [putAll_same]
   intro j d hj
   simp only [Nat.zero_add, hj]
  ·rw [hz]
   exact h0 _
def VE (P : Program) (Q : Exit -> Act -> World -> Prop) (w : World) (ops : List Oper) (V : Nat -> Value -> World -> Prop) (mk : (Nat -> Value) -> Act) : List Oper -> Nat -> Prop
 | [], _ => True
 | o :: r, i => (∀ vs W, Below w.heap.size w W -> (∀ j, needs o j = true -> V j (vs j) W) -> ∀ K : Act -> World -> Prop, (∀ v W', Below W.heap.size W W' -> V i v W' -> K ((mk vs).put o.dst v) W') -> if Region.wanted o (yielded ops.toArray (mk vs).tmps) = true then Oper.wp P o (mk vs) W K Q else K ((mk vs).put o.dst undef) W) /\ VE P Q w ops V mk r (i + 1)
theorem VE.inv {w : World} {ops : List Oper} {V : Nat -> Value -> World -> Prop} {mk : (Nat -> Value) -> Act} (hV : ∀ i v W W', Below W.heap.size W W' -> V i v W -> V i v W') : ∀ (l : List Oper) (k : Nat), VE P Q w ops V mk l k -> InvE P Q ops (fun L vs W => Below w.heap.size w W /\ ∀ i, L i = true -> V i (vs i) W) mk l k
 | [], _, _ => trivial
 | o :: r, k, h => by
  refine ⟨fun L vs W hI hi hn hcl K hK => ?_, VE.inv hV r (k + 1) h.2⟩
  refine h.1 vs W hI.1 (fun j hj => hI.2 j (hn j hj)) K (fun v W' hb hv => hK v W' ⟨bthen hI.1 hb, fun j hj => ?_⟩)
  unfold updB at hj
  unfold upd
  by_cases e : j = k
  ·subst e
   rw [if_pos rfl]
   exact hv
  ·rw [if_neg e] at hj |-
   exact hV _ _ _ _ hb (hI.2 j hj)
theorem region_v {ops : List Oper} {id : Nat} {a : Act} {w : World} (hm : P.follows .mixedOrders = true) (hsh : invShape ops = true)
  (V : Nat -> Value -> World -> Prop) (hV : ∀ i v W W', Below W.heap.size W W' -> V i v W -> V i v W')
  (hE : VE P Q w ops V (fun vs => putAll (ops.map (·.dst)) 0 vs a) ops 0)
  (hend : ∀ vs W, Below w.heap.size w W -> (∀ i, i < ops.length -> V i (vs i) W) -> Q .normal (putAll (ops.map (·.dst)) 0 vs a) W) :
  (Code.region id ops.toArray true).wp P Q a w := by
 refine region_inv hm hsh (fun L vs W => Below w.heap.size w W /\ ∀ i, L i = true -> V i (vs i) W) (fun vs => ⟨below_drew (Below.refl _ _), fun i h => by cases h⟩) (VE.inv hV _ _ hE) (fun vs W hI => ?_)
 exact hend vs W hI.1 (fun i hi => hI.2 i (by simpa using hi))
end
end Go.Proofs.YtooeeiiiflfckaaGreat
/- region_inv, where the region reads a slot that it also fills. -/
namespace Go.Proofs.YtooeeiiiflfckaaGreat
open Go.RowKit
section
variable {P : Program} {Q : Exit -> Act -> World -> Prop}
theorem region_inv0 {ops : List Oper} {id : Nat} {a : Act} {w : World} (hm : P.follows .mixedOrders = true) (hsh : invShape ops = true)
  (Inv : (Nat -> Bool) -> (Nat -> Value) -> World -> Prop) (h0 : ∀ vs, (∀ i d, (ops.map (·.dst))[i]? = some (some d) -> vs i = a.tmps.getD d undef) -> Inv (fun _ => false) vs w.drew)
  (hE : InvE P Q ops Inv (fun vs => putAll (ops.map (·.dst)) 0 vs a) ops 0)
  (hend : ∀ vs W, Inv (fun i => decide (i < ops.length)) vs W -> Q .normal (putAll (ops.map (·.dst)) 0 vs a) W) :
  (Code.region id ops.toArray true).wp P Q a w := by
 simp only [invShape, Bool.and_eq_true, List.all_eq_true, List.mem_range] at hsh
 obtain ⟨hap, hback⟩ := hsh
 obtain ⟨arr, harr⟩ : ∃ arr, arr = ops.toArray := ⟨_, rfl⟩
 have hsz : arr.size = ops.length := by rw [harr]; simp
 have hat : ∀ i : Nat, arr[i]? = ops[i]? := by intro i; rw [harr]; simp
 have harr' : ops.toArray = arr := harr.symm
 rw [harr']
 refine wp_region_any hm ?_
 let J : Array Bool -> Act -> World -> Prop := fun listed a' W => listed.size = ops.length /\ (∀ (j : Nat) (o : Oper), ops[j]? = some o -> ranB listed j = true -> ∀ k : Nat, needs o k = true -> ranB listed k = true) /\
  ∃ vs, a' = putAll (ops.map (·.dst)) 0 vs a /\ Inv (ranB listed) vs W
 have hstep : ∀ listed a' W i, J listed a' W -> i ∈ Region.ready .any arr listed -> listed[i]? = some false /\ wpOp P arr Q i (J (listed.setIfInBounds i true)) a' W := by
  intro listed a' W i hI hi
  simp only [Region.ready, List.mem_filter, List.mem_range, Bool.and_eq_true, Bool.not_eq_true'] at hi
  obtain ⟨hi1, hi2, hi3⟩ := hi
  obtain ⟨hs, hcl, vs, rfl, hI⟩ := hI
  have hli : listed[i]? = some false := by
   have hlt : i < listed.size := by omega
   rw [Array.getElem?_eq_getElem hlt]
   simp only [Array.getD, hlt, dite_true] at hi2
   rw [<- hi2]
   rfl
  refine ⟨hli, ?_⟩
  obtain ⟨o, ho⟩ : ∃ o, arr[i]? = some o := ⟨arr[i], Array.getElem?_eq_getElem hi1⟩
  rw [ho] at hi3
  simp only [Option.map_some, Option.getD_some, Array.all_eq_true', Bool.or_eq_true, Bool.not_eq_true'] at hi3
  have ho' := ho
  rw [hat] at ho'
  have hneeds : ∀ j, needs o j = true -> ranB listed j = true := by
   intro j hj
   simp only [needs, List.any_eq_true, Array.mem_toList_iff, Bool.and_eq_true, beq_iff_eq] at hj
   obtain ⟨e, he, hb, rfl⟩ := hj
   unfold ranB
   rw [decide_eq_true_iff]
   rcases hi3 e he with h | h
   ·rw [hb] at h; simp at h
   ·unfold Array.getD at h
    split at h
    ·rename_i hlt
     rw [Array.getElem?_eq_getElem hlt]
     exact congrArg some h
    ·simp at h
  have hran : ranB (listed.setIfInBounds i true) = updB (ranB listed) i := by
   funext j
   unfold ranB updB
   by_cases e : j = i
   ·subst e
    rw [if_pos rfl, Array.getElem?_setIfInBounds, if_pos rfl, if_pos (by omega)]
    simp
   ·rw [if_neg e, Array.getElem?_setIfInBounds_ne (fun h => e h.symm)]
  have hclo : ∀ (j : Nat) (q : Oper), ops[j]? = some q -> ranB (listed.setIfInBounds i true) j = true -> ∀ k : Nat, needs q k = true -> ranB (listed.setIfInBounds i true) k = true := by
   intro j q hq hj k hk
   rw [hran] at hj |-
   unfold updB at hj |-
   by_cases e : k = i
   ·rw [if_pos e]
   ·rw [if_neg e]
    by_cases e2 : j = i
    ·subst e2
     rw [hq] at ho'
     injection ho' with ho'
     subst ho'
     exact hneeds k hk
    ·rw [if_neg e2] at hj
     exact hcl j q hq hj k hk
  have hone := hE.get i o ho' (ranB listed) vs W hI (by rw [Nat.zero_add]; unfold ranB; rw [hli]; simp) hneeds hcl (J (listed.setIfInBounds i true)) (fun v W' hI' => by
   rw [Nat.zero_add] at hI'
   refine ⟨by simpa using hs, hclo, upd vs i v, ?_, by rw [hran]; exact hI'⟩
   have := put_mid (ops.map (·.dst)) 0 i vs a o.dst v hap (by simp [ho'])
   rw [Nat.zero_add] at this
   exact this)
  rw [harr'] at hone
  unfold wpOp
  rw [ho]
  simp only
  split at hone
  ·rename_i hw
   rw [if_pos hw]
   exact .inl hone
  ·rename_i hw
   rw [if_neg hw]
   exact hone
 have hdone : ∀ listed a' W, J listed a' W -> Region.ready .any arr listed = [] -> Q .normal a' W := by
  intro listed a' W hI hr
  obtain ⟨hs, -, vs, rfl, hI⟩ := hI
  have key : ∀ i, i < ops.length -> listed[i]? = some true := by
   intro i
   induction i using Nat.strongRecOn with
   | ind i ih =>
    intro hi
    have hlt : i < listed.size := by omega
    rw [Array.getElem?_eq_getElem hlt]
    cases hb : listed[i] with
    | true => rfl
    | false =>
     exfalso
     have : i ∈ Region.ready .any arr listed := by
      simp only [Region.ready, List.mem_filter, List.mem_range, Bool.and_eq_true, Bool.not_eq_true']
      have hio : i < arr.size := by omega
      refine ⟨hio, by simp [Array.getD, hlt, hb], ?_⟩
      rw [Array.getElem?_eq_getElem hio]
      simp only [Option.map_some, Option.getD_some, Array.all_eq_true', Bool.or_eq_true, Bool.not_eq_true']
      intro e he
      by_cases hbd : Region.binds .any e = true
      rotate_left
      ·exact .inl (by simpa using hbd)
      right
      have hb1 := hback i hi
      rw [<- hat, Array.getElem?_eq_getElem hio] at hb1
      simp only [Array.all_eq_true', decide_eq_true_eq, Bool.or_eq_true, Bool.not_eq_true'] at hb1
      have h1 := (hb1 e he).resolve_left (by rw [hbd]; decide)
      have h2 := ih e.on h1 (by omega)
      have h3 : e.on < listed.size := by omega
      rw [Array.getElem?_eq_getElem h3] at h2
      simp only [Array.getD, h3, dite_true]
      injection h2
     rw [hr] at this
     simp at this
  refine hend vs W ?_
  have : ranB listed = fun i => decide (i < ops.length) := by
   funext i
   unfold ranB
   rw [decide_eq_decide]
   constructor
   ·intro h
    have := (Array.getElem?_eq_some_iff.1 h).1
    omega
   ·exact key i
  rw [<- this]
  exact hI
 have main : ∀ fuel listed a' W, listed.toList.countP (· == false) <= fuel -> J listed a' W -> wpAny P .any arr Q fuel listed a' W := by
  intro fuel
  induction fuel with
  | zero =>
   intro listed a' W hc hI
   have hr : Region.ready .any arr listed = [] := by
    rw [List.eq_nil_iff_forall_not_mem]
    intro i hi
    have := (hstep listed a' W i hI hi).1
    have hp : 0 < listed.toList.countP (· == false) := List.countP_pos_iff.2 ⟨false, List.mem_of_getElem? (i := i) (by simpa using this), rfl⟩
    omega
   exact ⟨hr, hdone _ _ _ hI hr⟩
  | succ fuel ih =>
   intro listed a' W hc hI
   refine ⟨fun hr => hdone _ _ _ hI hr, fun i hi => ?_⟩
   obtain ⟨h1, h2⟩ := hstep listed a' W i hI hi
   refine wpOp_mono (fun a2 W2 h => ih _ _ _ ?_ h) h2
   have hlt : i < listed.toList.length := by
    rcases Nat.lt_or_ge i listed.toList.length with h | h
    ·exact h
    ·exfalso
     have : listed.size <= i := by simpa using h
     rw [Array.getElem?_eq_none this] at h1
     simp at h1
   have hli : listed.toList[i] = false := by
    have : listed.toList[i]? = some false := by simpa using h1
    rw [List.getElem?_eq_getElem hlt] at this
    injection this
   rw [Array.toList_setIfInBounds, List.countP_set hlt, hli]
   show listed.toList.countP (· == false) - 1 + 0 <= fuel
   omega
 refine main _ _ _ _ ?_ ?_
 ·have := List.countP_le_length (p := (· == false)) (l := (Array.replicate arr.size false).toList)
  simpa using this
 ·have hz : ranB (Array.replicate arr.size false) = fun _ => false := by
   funext i
   unfold ranB
   rw [Array.getElem?_replicate]
   split <;> simp
  refine ⟨by simp [hsz], fun j o _ hj => by (rw [hz] at hj; cases hj), fun i => match (ops.map (·.dst))[i]? with | some (some d) => a.tmps.getD d undef | _ => undef, ?_, ?_⟩
  ·rw [putAll_same]
   intro j d hj
   simp only [Nat.zero_add, hj]
  ·rw [hz]
   exact h0 _ (fun i d h => by simp only [h])
end
end Go.Proofs.YtooeeiiiflfckaaGreat
/- What a call leaves as it was, but for the blocks of an object; a drawn region with one step that writes. -/
namespace Go.Proofs.YtooeeiiiflfckaaGreat
open Go.RowKit
structure Keeps (F : Nat -> Prop) (w w' : World) : Prop where
 os : w'.os = w.os
 tape : w'.tape = w.tape
 output : w'.output = w.output
 size : w.heap.size <= w'.heap.size
 block : ∀ k, k < w.heap.size -> ¬ F k -> w'.heap[k]? = w.heap[k]?
theorem Keeps.refl (F : Nat -> Prop) (w : World) : Keeps F w w := ⟨rfl, rfl, rfl, Nat.le_refl _, fun _ _ _ => rfl⟩
theorem Keeps.trans {F : Nat -> Prop} {a b c : World} (h : Keeps F a b) (k : Keeps F b c) : Keeps F a c :=
 ⟨k.os.trans h.os, k.tape.trans h.tape, k.output.trans h.output, Nat.le_trans h.size k.size, fun i hi hf => (k.block i (Nat.lt_of_lt_of_le hi h.size) hf).trans (h.block i hi hf)⟩
theorem Keeps.mono {F G : Nat -> Prop} {a b : World} (h : Keeps F a b) (hFG : ∀ k, k < a.heap.size -> F k -> G k) : Keeps G a b :=
 ⟨h.os, h.tape, h.output, h.size, fun i hi hf => h.block i hi (fun hF => hf (hFG i hi hF))⟩
theorem Keeps.of_below {F : Nat -> Prop} {a b : World} (h : Below a.heap.size a b) : Keeps F a b := ⟨h.os, h.tape, h.output, h.size, fun i hi _ => h.block i hi⟩
theorem Keeps.of_grown {F : Nat -> Prop} {a b : World} {r : Option Nat} (h : a.grownBy b r) (hr : ∀ k, r = some k -> F k) : Keeps F a b :=
 ⟨h.os, h.tape, h.output, h.size, fun i hi hf => h.block i hi (fun e => hf (hr i e.symm))⟩
theorem Keeps.below {F : Nat -> Prop} {B : Nat} {a b : World} (h : Keeps F a b) (hB : B <= a.heap.size) (hF : ∀ k, F k -> B <= k) : Below B a b :=
 ⟨h.os, h.tape, h.output, h.size, fun i hi => h.block i (Nat.lt_of_lt_of_le hi hB) (fun hf => absurd (hF i hf) (by omega))⟩
theorem Keeps.at {F : Nat -> Prop} {a b : World} {g : Nat} {o : Obj} (h : Keeps F a b) (hg : a.heap[g]? = some o) (hf : ¬ F g) : b.heap[g]? = some o :=
 (h.block g (lt_of_block hg) hf).trans hg
theorem Keeps.own {F : Nat -> Prop} {w w' : World} {b : Nat} {e : TypeId} {size n : Nat} {v : Value} {xs : List Value} (h : w.ownsRow b e size v n xs) (hk : Keeps F w w') (hf : ∀ g, v.ownBlock = some g -> ¬ F g) : w'.ownsRow b e size v n xs := by
 refine ⟨h.1, ?_⟩
 rcases h.2 with h1 | ⟨g, cap, cur, h1, h2, h3, h4⟩
 ·exact .inl h1
 ·exact .inr ⟨g, cap, cur, h1, h2, hk.at h3 (hf g (by rw [h1]; rfl)), h4⟩
theorem pv_upd {PV : Nat -> Value -> Prop} {L : Nat -> Bool} {vs : Nat -> Value} (h : ∀ i, L i = true -> PV i (vs i)) {k : Nat} {v : Value} (hv : PV k v) : ∀ i, updB L k i = true -> PV i (upd vs k v i) := by
 intro i hi
 unfold updB at hi
 unfold upd
 by_cases e : i = k
 ·rw [if_pos e, e]; exact hv
 ·rw [if_neg e] at hi |-; exact h i hi
structure PInv (PV : Nat -> Value -> Prop) (n : Nat) (S0 S1 : World -> Prop) (L : Nat -> Bool) (vs : Nat -> Value) (W : World) : Prop where
 pv : ∀ i, L i = true -> PV i (vs i)
 s0 : L n = false -> S0 W
 s1 : L n = true -> S1 W
structure AppInv (w : World) (e : TypeId) (size : Nat) (r : Value) (n : Nat) (xs cs : List Value) (PV : Nat -> Value -> Prop) (iN iA iO : Nat) (L : Nat -> Bool) (vs : Nat -> Value) (W : World) : Prop where
 pv : ∀ i, L i = true -> PV i (vs i)
 below : Below w.heap.size w W
 row : L iA = false -> W.ownsRow w.heap.size e size r n xs
 new : L iA = false -> L iN = true -> ∃ g, vs iN = .slice (some ⟨g, 0, none⟩) 1 1 /\ W.heap[g]? = some (.cells cs.toArray e (0, 0))
 res : L iA = true -> W.ownsRow w.heap.size e size (vs iA) (n + 1) (xs ++ cs)
 out : L iO = true -> vs iO = vs iA
 old : L iO = false -> vs iO = r
theorem AppInv.keep {w : World} {e : TypeId} {size : Nat} {r : Value} {n : Nat} {xs cs : List Value} {PV : Nat -> Value -> Prop} {iN iA iO : Nat} {L : Nat -> Bool} {vs : Nat -> Value} {W W' : World} (h : AppInv w e size r n xs cs PV iN iA iO L vs W) (hb : Below W.heap.size W W') : AppInv w e size r n xs cs PV iN iA iO L vs W' :=
 ⟨h.pv, bthen h.below hb, fun a => Below.kept (h.row a) hb, fun a c => by obtain ⟨g, h1, h2⟩ := h.new a c; exact ⟨g, h1, keep_at h2 hb⟩, fun a => Below.kept (h.res a) hb, h.out, h.old⟩
end Go.Proofs.YtooeeiiiflfckaaGreat
/- A region that draws its order and ends in one forced step: the reads ahead of it walked once. -/
namespace Go.Proofs.YtooeeiiiflfckaaGreat
open Go.RowKit
theorem region_tail {P : Program} {id : Nat} {Q : Exit -> Act -> World -> Prop} {a : Act} {w : World} {l : List Oper} (n : Nat) (hm : P.follows .mixedOrders = true) (hB : Region.lexTailB .any l.toArray n = true)
  (h : ∀ wy : World, wy.heap = w.heap -> Below w.heap.size w wy -> wpStill P l.toArray wy (fun a' => wpList P l.toArray Q (l.drop n) a' wy) (l.take n) a) : (Code.region id l.toArray true).wp P Q a w :=
 wp_region_still_tail n hm hB (h w.drew rfl (below_drew (Below.refl _ _)))
end Go.Proofs.YtooeeiiiflfckaaGreat
/- Structs that are written over. -/
namespace Go.Proofs.YtooeeiiiflfckaaGreat
open Go.RowKit
def put2 (W : World) (b : Nat) (u0 u1 : Value) : World := (W.setCell ⟨b, 0, none⟩ u0).setCell ⟨b, 1, none⟩ u1
theorem put2_at {W : World} {b : Nat} {a0 a1 : Value} {t : TypeId} (h : W.heap[b]? = some (.cells #[a0, a1] t (0, 0))) (u0 u1 : Value) : (put2 W b u0 u1).heap[b]? = some (.cells #[u0, u1] t (0, 0)) := by
 have := blk_set (blk_set h 0 u0) 1 u1
 simpa [put2] using this
theorem put2_grown (W : World) (b : Nat) (u0 u1 : Value) : W.grownBy (put2 W b u0 u1) (some b) :=
 grown_trans (set_grown _ _ _ _) (set_grown _ _ _ _)
def put3 (W : World) (b : Nat) (u0 u1 u2 : Value) : World := ((W.setCell ⟨b, 0, none⟩ u0).setCell ⟨b, 1, none⟩ u1).setCell ⟨b, 2, none⟩ u2
theorem put3_at {W : World} {b : Nat} {a0 a1 a2 : Value} {t : TypeId} (h : W.heap[b]? = some (.cells #[a0, a1, a2] t (0, 0))) (u0 u1 u2 : Value) : (put3 W b u0 u1 u2).heap[b]? = some (.cells #[u0, u1, u2] t (0, 0)) := by
 have := blk_set (blk_set (blk_set h 0 u0) 1 u1) 2 u2
 simpa [put3] using this
theorem put3_grown (W : World) (b : Nat) (u0 u1 u2 : Value) : W.grownBy (put3 W b u0 u1 u2) (some b) :=
 grown_trans (grown_trans (set_grown _ _ _ _) (set_grown _ _ _ _)) (set_grown _ _ _ _)
def put7 (W : World) (b : Nat) (u0 u1 u2 u3 u4 u5 u6 : Value) : World := ((((((W.setCell ⟨b, 0, none⟩ u0).setCell ⟨b, 1, none⟩ u1).setCell ⟨b, 2, none⟩ u2).setCell ⟨b, 3, none⟩ u3).setCell ⟨b, 4, none⟩ u4).setCell ⟨b, 5, none⟩ u5).setCell ⟨b, 6, none⟩ u6
theorem put7_at {W : World} {b : Nat} {a0 a1 a2 a3 a4 a5 a6 : Value} {t : TypeId} (h : W.heap[b]? = some (.cells #[a0, a1, a2, a3, a4, a5, a6] t (0, 0))) (u0 u1 u2 u3 u4 u5 u6 : Value) : (put7 W b u0 u1 u2 u3 u4 u5 u6).heap[b]? = some (.cells #[u0, u1, u2, u3, u4, u5, u6] t (0, 0)) := by
 have := blk_set (blk_set (blk_set (blk_set (blk_set (blk_set (blk_set h 0 u0) 1 u1) 2 u2) 3 u3) 4 u4) 5 u5) 6 u6
 simpa [put7] using this
theorem put7_grown (W : World) (b : Nat) (u0 u1 u2 u3 u4 u5 u6 : Value) : W.grownBy (put7 W b u0 u1 u2 u3 u4 u5 u6) (some b) :=
 grown_trans (grown_trans (grown_trans (grown_trans (grown_trans (grown_trans (set_grown _ _ _ _) (set_grown _ _ _ _)) (set_grown _ _ _ _)) (set_grown _ _ _ _)) (set_grown _ _ _ _)) (set_grown _ _ _ _)) (set_grown _ _ _ _)
def put8 (W : World) (b : Nat) (u0 u1 u2 u3 u4 u5 u6 u7 : Value) : World := (((((((W.setCell ⟨b, 0, none⟩ u0).setCell ⟨b, 1, none⟩ u1).setCell ⟨b, 2, none⟩ u2).setCell ⟨b, 3, none⟩ u3).setCell ⟨b, 4, none⟩ u4).setCell ⟨b, 5, none⟩ u5).setCell ⟨b, 6, none⟩ u6).setCell ⟨b, 7, none⟩ u7
end Go.Proofs.YtooeeiiiflfckaaGreat
/- A drawn region that reads, calls once, takes the answer apart and stores parts of it into blocks of its own. -/
namespace Go.Proofs.YtooeeiiiflfckaaGreat
open Go.RowKit
structure OwnB where
 iA : Nat
 iS : Nat
 ty : TypeId
 z : Array Value
 N : Value -> Array Value
def tupAt (k : Nat) (v : Value) : Value := match v with
 | .tuple a => a.getD k undef
 | _ => undef
structure CInv (w : World) (PV : Nat -> Value -> Prop) (iC : Nat) (R : Value -> World -> Prop) (D : List (Nat × (Value -> Value))) (A : List OwnB) (L : Nat -> Bool) (vs : Nat -> Value) (W : World) : Prop where
 pv : ∀ i, L i = true -> PV i (vs i)
 below : Below w.heap.size w W
 res : L iC = true -> R (vs iC) W
 dep : ∀ d ∈ D, L d.1 = true -> vs d.1 = d.2 (vs iC)
 new : ∀ a ∈ A, L a.iA = true -> ∃ g, vs a.iA = .pointer (some ⟨g, 0, none⟩) /\ w.heap.size <= g /\ W.heap[g]? = some (.cells (if L a.iS = true then a.N (vs iC) else a.z) a.ty (0, 0))
 two : ∀ a ∈ A, ∀ b ∈ A, a.iA ≠ b.iA -> L a.iA = true -> L b.iA = true -> vs a.iA ≠ vs b.iA
section
variable {w : World} {PV : Nat -> Value -> Prop} {iC : Nat} {R : Value -> World -> Prop} {D : List (Nat × (Value -> Value))} {A : List OwnB} {L : Nat -> Bool} {vs : Nat -> Value} {W : World}
theorem updB_ne {L : Nat -> Bool} {i j : Nat} (h : j ≠ i) : updB L i j = L j := by unfold updB; rw [if_neg h]
theorem updB_eq {L : Nat -> Bool} {i : Nat} : updB L i i = true := by unfold updB; rw [if_pos rfl]
theorem upd_ne {vs : Nat -> Value} {i j : Nat} {v : Value} (h : j ≠ i) : upd vs i v j = vs j := by unfold upd; rw [if_neg h]
theorem upd_eq {vs : Nat -> Value} {i : Nat} {v : Value} : upd vs i v i = v := by unfold upd; rw [if_pos rfl]
theorem CInv.pure (h : CInv w PV iC R D A L vs W) {i : Nat} {v : Value} (hi : i ≠ iC) (hA : ∀ a ∈ A, a.iA ≠ i /\ a.iS ≠ i) (hv : PV i v) (hD : ∀ d ∈ D, d.1 = i -> v = d.2 (vs iC)) : CInv w PV iC R D A (updB L i) (upd vs i v) W := by
 refine ⟨pv_upd h.pv hv, h.below, ?_, ?_, ?_, ?_⟩
 ·rw [updB_ne hi.symm, upd_ne hi.symm]
  exact h.res
 ·intro d hd hl
  rw [upd_ne hi.symm]
  by_cases e : d.1 = i
  ·rw [e, upd_eq]
   exact hD d hd e
  ·rw [updB_ne e] at hl
   rw [upd_ne e]
   exact h.dep d hd hl
 ·intro a ha hl
  rw [updB_ne (hA a ha).1] at hl
  rw [updB_ne (hA a ha).2, upd_ne (hA a ha).1, upd_ne hi.symm]
  exact h.new a ha hl
 ·intro a ha b hb hab hla hlb
  rw [updB_ne (hA a ha).1] at hla
  rw [updB_ne (hA b hb).1] at hlb
  rw [upd_ne (hA a ha).1, upd_ne (hA b hb).1]
  exact h.two a ha b hb hab hla hlb
theorem CInv.call (h : CInv w PV iC R D A L vs W) {v : Value} {W' : World} (hb : Below W.heap.size W W') (hr : R v W') (hv : PV iC v) (hA : ∀ a ∈ A, a.iA ≠ iC /\ a.iS ≠ iC /\ L a.iS = false) (hD : ∀ d ∈ D, d.1 ≠ iC /\ L d.1 = false) : CInv w PV iC R D A (updB L iC) (upd vs iC v) W' := by
 refine ⟨pv_upd h.pv hv, bthen h.below hb, ?_, ?_, ?_, ?_⟩
 ·intro _
  rw [upd_eq]
  exact hr
 ·intro d hd hl
  rw [updB_ne (hD d hd).1, (hD d hd).2] at hl
  cases hl
 ·intro a ha hl
  rw [updB_ne (hA a ha).1] at hl
  obtain ⟨g, h1, h2, h3⟩ := h.new a ha hl
  rw [(hA a ha).2.2] at h3
  refine ⟨g, by rw [upd_ne (hA a ha).1]; exact h1, h2, ?_⟩
  rw [updB_ne (hA a ha).2.1, (hA a ha).2.2]
  exact keep_at h3 hb
 ·intro a ha b hb' hab hla hlb
  rw [updB_ne (hA a ha).1] at hla
  rw [updB_ne (hA b hb').1] at hlb
  rw [upd_ne (hA a ha).1, upd_ne (hA b hb').1]
  exact h.two a ha b hb' hab hla hlb
theorem CInv.alloc (h : CInv w PV iC R D A L vs W) (q : OwnB) (hq : q ∈ A) (hi : q.iA ≠ iC) (hs : L q.iS = false) (hA : ∀ a ∈ A, a.iS ≠ q.iA /\ (a.iA = q.iA -> a = q)) (hsi : q.iS ≠ q.iA) (hD : ∀ d ∈ D, d.1 ≠ q.iA) (hv : PV q.iA (.pointer (some ⟨W.heap.size, 0, none⟩))) (hR : ∀ v W W', R v W -> Below W.heap.size W W' -> R v W') : CInv w PV iC R D A (updB L q.iA) (upd vs q.iA (.pointer (some ⟨W.heap.size, 0, none⟩))) (W.alloc (.cells q.z q.ty)) := by
 have hb := balloc W (.cells q.z q.ty)
 refine ⟨pv_upd h.pv hv, bthen h.below hb, ?_, ?_, ?_, ?_⟩
 ·rw [updB_ne hi.symm, upd_ne hi.symm]
  exact fun hl => hR _ _ _ (h.res hl) hb
 ·intro d hd hl
  rw [updB_ne (hD d hd)] at hl
  rw [upd_ne (hD d hd), upd_ne hi.symm]
  exact h.dep d hd hl
 ·intro a ha hl
  rw [updB_ne (hA a ha).1, upd_ne hi.symm]
  by_cases e : a.iA = q.iA
  ·obtain rfl := (hA a ha).2 e
   refine ⟨W.heap.size, upd_eq, h.below.size, ?_⟩
   rw [hs]
   exact blk_new W _
  ·rw [updB_ne e] at hl
   rw [upd_ne e]
   obtain ⟨g, h1, h2, h3⟩ := h.new a ha hl
   exact ⟨g, h1, h2, keep_at h3 hb⟩
 ·intro a ha b hb' hab hla hlb
  by_cases ea : a.iA = q.iA
  ·have eb : b.iA ≠ q.iA := fun e => hab (ea.trans e.symm)
   rw [updB_ne eb] at hlb
   obtain ⟨g, h1, h2, h3⟩ := h.new b hb' hlb
   rw [ea, upd_eq, upd_ne eb, h1]
   intro e
   injection e with e
   injection e with e
   injection e with e
   have := lt_of_block h3
   omega
  ·rw [updB_ne ea] at hla
   obtain ⟨g, h1, h2, h3⟩ := h.new a ha hla
   by_cases eb : b.iA = q.iA
   ·rw [eb, upd_eq, upd_ne ea, h1]
    intro e
    injection e with e
    injection e with e
    injection e with e
    have := lt_of_block h3
    omega
   ·rw [updB_ne eb] at hlb
    rw [upd_ne ea, upd_ne eb]
    exact h.two a ha b hb' hab hla hlb
theorem CInv.store (h : CInv w PV iC R D A L vs W) (q : OwnB) (hq : q ∈ A) {v : Value} {W' : World} {g : Nat} (hg : vs q.iA = .pointer (some ⟨g, 0, none⟩)) (hl : L q.iA = true) (hgr : W.grownBy W' (some g)) (hn : W'.heap[g]? = some (.cells (q.N (vs iC)) q.ty (0, 0))) (hi : q.iS ≠ iC) (hA : ∀ a ∈ A, a.iA ≠ q.iS /\ (a.iS = q.iS -> a = q) /\ (a.iA = q.iA -> a = q)) (hD : ∀ d ∈ D, d.1 ≠ q.iS) (hv : PV q.iS v) (hR : ∀ v W W' g, R v W -> W.grownBy W' (some g) -> Typed W g q.ty -> R v W') : CInv w PV iC R D A (updB L q.iS) (upd vs q.iS v) W' := by
 obtain ⟨g', e1, e2, e3⟩ := h.new q hq hl
 rw [hg] at e1
 injection e1 with e1
 injection e1 with e1
 injection e1 with e1
 subst e1
 refine ⟨pv_upd h.pv hv, bput h.below hgr e2 (Nat.le_refl _), ?_, ?_, ?_, ?_⟩
 ·rw [updB_ne hi.symm, upd_ne hi.symm]
  exact fun hl => hR _ _ _ g (h.res hl) hgr ⟨_, e3⟩
 ·intro d hd hl
  rw [updB_ne (hD d hd)] at hl
  rw [upd_ne (hD d hd), upd_ne hi.symm]
  exact h.dep d hd hl
 ·intro a ha hl'
  rw [updB_ne (hA a ha).1] at hl'
  rw [upd_ne (hA a ha).1, upd_ne hi.symm]
  obtain ⟨ga, h1, h2, h3⟩ := h.new a ha hl'
  by_cases e : a.iA = q.iA
  ·obtain rfl := (hA a ha).2.2 e
   rw [h1] at hg
   injection hg with hg
   injection hg with hg
   injection hg with hg
   subst hg
   refine ⟨ga, h1, h2, ?_⟩
   rw [updB_eq]
   exact hn
  ·have hne : ga ≠ g := fun q' => h.two a ha q hq e hl' hl (by rw [h1, hg, q'])
   have es : a.iS ≠ q.iS := fun q' => e (by rw [(hA a ha).2.1 q'])
   refine ⟨ga, h1, h2, ?_⟩
   rw [updB_ne es]
   exact (hgr.block ga (lt_of_block h3) (fun q' => hne (by injection q'))).trans h3
 ·intro a ha b hb' hab hla hlb
  rw [updB_ne (hA a ha).1] at hla
  rw [updB_ne (hA b hb').1] at hlb
  rw [upd_ne (hA a ha).1, upd_ne (hA b hb').1]
  exact h.two a ha b hb' hab hla hlb
end
end Go.Proofs.YtooeeiiiflfckaaGreat
/- A drawn region by what each step yields and by what is told of the world (by which steps have run). -/
namespace Go.Proofs.YtooeeiiiflfckaaGreat
open Go.RowKit
structure WInv (PV : Nat -> Value -> Prop) (S : (Nat -> Bool) -> World -> Prop) (L : Nat -> Bool) (vs : Nat -> Value) (W : World) : Prop where
 pv : ∀ i, L i = true -> PV i (vs i)
 st : S L W
end Go.Proofs.YtooeeiiiflfckaaGreat
