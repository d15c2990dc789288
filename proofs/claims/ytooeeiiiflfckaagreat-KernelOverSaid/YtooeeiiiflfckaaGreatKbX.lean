/- Several texts of this claim as one. -/
import Derived.Test.YtooeeiiiflfckaaGreatKerA
import Derived.Test.YtooeeiiiflfckaaGreatPrtA
import Derived.Test.YtooeeiiiflfckaaGreatVmD
import Derived.Test.YtooeeiiiflfckaaGreatLibA
import Derived.Test.YtooeeiiiflfckaaGreatSlkF
import Derived.Maps.AppendAt
/- the kernel in memory: its pieces, each in blocks of its own. -/
set_option linter.unusedVariables false
set_option linter.unusedSimpArgs false
namespace Go.Proofs.YtooeeiiiflfckaaGreat
open Go.RowKit
structure Foot (P : World -> Prop) (F : Nat -> Prop) (W : World) : Prop where
 lt : ∀ k, F k -> k < W.heap.size
 all : ∀ W', (∀ k, F k -> W'.heap[k]? = W.heap[k]?) -> P W'
theorem Foot.now {P : World -> Prop} {F : Nat -> Prop} {W : World} (h : Foot P F W) : P W := h.all W (fun _ _ => rfl)
theorem same_lt {W W' : World} {k : Nat} (hk : k < W.heap.size) (h : W'.heap[k]? = W.heap[k]?) : k < W'.heap.size := lt_of_block (h.trans (Array.getElem?_eq_getElem hk))
theorem Foot.far {P : World -> Prop} {F : Nat -> Prop} {W W' : World} (h : Foot P F W) (hk : ∀ k, F k -> W'.heap[k]? = W.heap[k]?) : Foot P F W' :=
 ⟨fun k hf => same_lt (h.lt k hf) (hk k hf), fun W2 h2 => h.all W2 (fun k hf => (h2 k hf).trans (hk k hf))⟩
theorem Foot.imp {P Q : World -> Prop} {F : Nat -> Prop} {W : World} (h : Foot P F W) (hi : ∀ W', P W' -> Q W') : Foot Q F W := ⟨h.lt, fun W' k => hi _ (h.all W' k)⟩
theorem own_far {w w' : World} {b : Nat} {e : TypeId} {size n : Nat} {v : Value} {xs : List Value} (h : w.ownsRow b e size v n xs) (hk : ∀ g, v.ownBlock = some g -> b <= g -> g < w.heap.size -> w'.heap[g]? = w.heap[g]?) : w'.ownsRow b e size v n xs := by
 refine ⟨h.1, ?_⟩
 rcases h.2 with h1 | ⟨g, cap, cur, h1, h2, h3, h4⟩
 ·exact .inl h1
 ·exact .inr ⟨g, cap, cur, h1, h2, (hk g (by rw [h1]; rfl) (h.lt g (by rw [h1]; rfl)).1 (lt_of_block h3)).trans h3, h4⟩
theorem PartOf.far {W W' : World} {B hi : Nat} {tv cv : Value} {x : Part} (h : PartOf W B tv cv x) (hk : ∀ g, B <= g -> g < W.heap.size -> W'.heap[g]? = W.heap[g]?) : PartOf W' B tv cv x :=
 ⟨own_far h.1 (fun g _ => hk g), own_far h.2 (fun g _ => hk g)⟩
theorem CarAt.same {W W' : World} {c : Car} {k : Nat} {q : List Int} (h : CarAt W c k q) (hk : ∀ g ∈ c.all, W'.heap[g]? = W.heap[g]?) : CarAt W' c k q := by
 cases c with
 | smp g => exact ⟨h.1, (hk g (by simp [Car.all])).trans h.2⟩
 | que qb rb => exact ⟨(hk qb (by simp [Car.all])).trans h.1, h.2.keep (hk rb (by simp [Car.all]))⟩
theorem PortsAt.same {W W' : World} {pb lo hi : Nat} {Ls : List Ln} (h : PortsAt W pb lo hi Ls) (hk : ∀ k, Between lo hi k -> W'.heap[k]? = W.heap[k]?) : PortsAt W' pb lo hi Ls := by
 have h1 := h.pb1
 have h2 := h.pb2
 have h3 := h.hi2
 obtain ⟨v, r1, r2, r3⟩ := h.row
 refine ⟨h1, h2, ?_, ⟨v, (hk pb ⟨h1, h2⟩).trans r1, own_far r2 (fun g hg hl _ => hk g ⟨hl, r3 g hg⟩), r3⟩, fun l hl => (h.cars l hl).same (fun g hg => hk g (h.blks l hl g hg)), h.blks, h.kind, h.ne⟩
 have := same_lt (k := hi - 1) (by omega) (hk (hi - 1) ⟨by omega, by omega⟩)
 omega
theorem PortsIs.same {W W' : World} {pb lo hi : Nat} {S : PSt} (h : PortsIs W pb lo hi S) (hk : ∀ k, Between lo hi k -> W'.heap[k]? = W.heap[k]?) : PortsIs W' pb lo hi S := by
 obtain ⟨Ls, h1, h2⟩ := h
 exact ⟨Ls, h1.same hk, h2⟩
theorem PortsIs.hi2 {W : World} {pb lo hi : Nat} {S : PSt} (h : PortsIs W pb lo hi S) : hi <= W.heap.size := by
 obtain ⟨Ls, h1, h2⟩ := h
 exact h1.hi2
inductive Ix where
 | kern | port | conf | row
 | seat (i : Nat) | loc (i : Nat) | ring (i : Nat)
deriving DecidableEq
structure KLay where
 kb : Nat
 pb : Nat
 plo : Nat
 phi : Nat
 pv : Value
 wv : Value
 ov : Value
 sv : Value
 sb : Nat -> Nat
 lb : Nat -> Nat
 llo : Nat -> Nat
 rb : Nat -> Nat
 cv : Nat -> Value
def kCells (Y : KLay) (K : KSt) : List Value := [vi K.now, vi K.start, vi K.led.idle, vi K.led.dealt, vi K.led.lost, vi K.led.last, vi K.mode.level, vi K.mode.quiet, .bool K.mode.loud, vi K.cfg.frame, vi K.cfg.quiet, Y.pv, Y.wv, Y.ov, Y.sv, ptrV Y.pb]
def sCells (Y : KLay) (i : Nat) (s : SSt) : List Value := ptrV (Y.lb i) :: vi s.lvl :: Y.cv i :: vi s.vm.pc :: vi s.vm.acc :: (s.vm.mem.map vi ++ [ptrV (Y.rb i)])
def resP (Y : KLay) (K : KSt) (x : Ix) (G : Nat -> Prop) (W : World) : Prop := match x with
 | .kern => G Y.kb /\ W.heap[Y.kb]? = some (.cells (kCells Y K).toArray 100 (0, 0))
 | .port => (∀ k, G k ↔ Between Y.plo Y.phi k) /\ PortsIs W Y.pb Y.plo Y.phi K.ports
 | .conf => CfgIs W Y.pv Y.wv Y.ov K.cfg /\ ∀ i, i < K.seats.length -> CodeV W (Y.cv i) (K.seat i).code
 | .row => W.ownsRow 0 101 1 Y.sv K.seats.length ((List.range K.seats.length).map (fun i => ptrV (Y.sb i)))
 | .seat i => i < K.seats.length -> G (Y.sb i) /\ W.heap[Y.sb i]? = some (.cells (sCells Y i (K.seat i)).toArray 105 (0, 0)) /\ (K.seat i).vm.mem.length = 16
 | .loc i => i < K.seats.length -> ∃ ps, LocAt W (Y.lb i) (Y.llo i) ps G (K.seat i).loc
 | .ring i => i < K.seats.length -> G (Y.rb i) /\ RingAt W (Y.rb i) 16 (K.seat i).inp
structure KIs (W : World) (Y : KLay) (F : Ix -> Nat -> Prop) (K : KSt) : Prop where
 res : ∀ x, Foot (resP Y K x (F x)) (F x) W
 dis : ∀ x y k, F x k -> F y k -> x = y
def All (F : Ix -> Nat -> Prop) (k : Nat) : Prop := ∃ x, F x k
def KAt (W : World) (Y : KLay) (K : KSt) (G : Nat -> Prop) : Prop := ∃ F, KIs W Y F K /\ G = All F
structure Moves (G G' : Nat -> Prop) (w w' : World) : Prop where
 keep : Keeps G w w'
 own : ∀ k, G' k -> G k ∨ w.heap.size <= k
theorem Moves.refl (G : Nat -> Prop) (w : World) : Moves G G w w := ⟨Keeps.refl _ _, fun _ h => .inl h⟩
theorem Moves.trans {G G' G2 : Nat -> Prop} {a b c : World} (h : Moves G G' a b) (k : Moves G' G2 b c) : Moves G G2 a c :=
 ⟨h.keep.trans' k.keep (fun j hj hg => (h.own j hg).resolve_right (by omega)), fun j hj => by
  rcases k.own j hj with q | q
  ·exact h.own j q
  ·exact .inr (Nat.le_trans h.keep.size q)⟩
theorem Moves.of_below {G : Nat -> Prop} {a b : World} (h : Below a.heap.size a b) : Moves G G a b := ⟨Keeps.of_below h, fun _ h => .inl h⟩
theorem Moves.of_grown {G : Nat -> Prop} {a b : World} {g : Nat} (h : a.grownBy b (some g)) (hg : G g) : Moves G G a b := ⟨Keeps.of_grown h (fun k e => by injection e with e; rw [<- e]; exact hg), fun _ h => .inl h⟩
theorem Moves.still {G G' : Nat -> Prop} {w w' : World} {g : Nat} (h : Moves G G' w w') (hg : g < w.heap.size) (hn : ¬ G g) : w'.heap[g]? = w.heap[g]? /\ ¬ G' g :=
 ⟨h.keep.block g hg hn, fun q => (h.own g q).elim hn (by omega)⟩
def Off (v : Value) (G : Nat -> Prop) : Prop := ∀ g, v.ownBlock = some g -> ¬ G g
theorem Moves.own_row {G G' : Nat -> Prop} {w w' : World} {b : Nat} {e : TypeId} {size n : Nat} {v : Value} {xs : List Value} (h : Moves G G' w w') (hv : w.ownsRow b e size v n xs) (hf : Off v G) : w'.ownsRow b e size v n xs /\ Off v G' :=
 ⟨Keeps.own hv h.keep hf, fun g hg => (h.still (hv.lt g hg).2 (hf g hg)).2⟩
theorem Moves.size {G G' : Nat -> Prop} {w w' : World} (h : Moves G G' w w') : w.heap.size <= w'.heap.size := h.keep.size
theorem Off.new {W : World} {G : Nat -> Prop} {b : Nat} {e : TypeId} {size n : Nat} {v : Value} {xs : List Value} (hv : W.ownsRow b e size v n xs) (hG : ∀ k, G k -> k < b) : Off v G := fun g hg hk => by
 have := (hv.lt g hg).1
 have := hG g hk
 omega
theorem KIs.lt {W : World} {Y : KLay} {F : Ix -> Nat -> Prop} {K : KSt} (h : KIs W Y F K) {k : Nat} (hk : All F k) : k < W.heap.size := by
 obtain ⟨x, hx⟩ := hk
 exact (h.res x).lt k hx
theorem KAt.lt {W : World} {Y : KLay} {K : KSt} {G : Nat -> Prop} (h : KAt W Y K G) {k : Nat} (hk : G k) : k < W.heap.size := by
 obtain ⟨F, h1, rfl⟩ := h
 exact h1.lt hk
def updF (F : Ix -> Nat -> Prop) (x : Ix) (F' : Nat -> Prop) : Ix -> Nat -> Prop := fun y => if y = x then F' else F y
theorem KIs.upd {W W' : World} {Y : KLay} {F : Ix -> Nat -> Prop} {K K' : KSt} (h : KIs W Y F K) (x : Ix) {F' : Nat -> Prop} (hk : Keeps (F x) W W') (hF : ∀ k, F' k -> F x k ∨ W.heap.size <= k) (hx : Foot (resP Y K' x F') F' W') (hK : ∀ y, y ≠ x -> ∀ G W2, resP Y K y G W2 -> resP Y K' y G W2) :
  ∃ G', KAt W' Y K' G' /\ Moves (All F) G' W W' /\ ∀ k, G' k -> All F k ∨ F' k := by
 have hup : ∀ y, y ≠ x -> updF F x F' y = F y := fun y hy => by unfold updF; rw [if_neg hy]
 have hux : updF F x F' x = F' := by unfold updF; rw [if_pos rfl]
 refine ⟨_, ⟨updF F x F', ⟨fun y => ?_, fun y z k hy hz => ?_⟩, rfl⟩, ⟨hk.mono (fun k _ q => ⟨x, q⟩), fun k ⟨y, hy⟩ => ?_⟩, fun k ⟨y, hy⟩ => ?_⟩
 ·by_cases e : y = x
  ·subst e
   rw [hux]
   exact hx
  ·rw [hup y e]
   have hr := h.res y
   have : Foot (resP Y K y (F y)) (F y) W' := hr.far (fun k hf => hk.block k (hr.lt k hf) (fun hq => e (h.dis _ _ _ hf hq)))
   exact this.imp (fun W2 q => hK y e _ _ q)
 ·by_cases e : y = x <;> by_cases e2 : z = x
  ·rw [e, e2]
  ·subst e
   rw [hux] at hy
   rw [hup z e2] at hz
   rcases hF k hy with q | q
   ·exact h.dis _ _ _ q hz
   ·have := (h.res z).lt k hz
    omega
  ·subst e2
   rw [hux] at hz
   rw [hup y e] at hy
   rcases hF k hz with q | q
   ·exact h.dis _ _ _ hy q
   ·have := (h.res y).lt k hy
    omega
  ·rw [hup y e] at hy
   rw [hup z e2] at hz
   exact h.dis _ _ _ hy hz
 ·by_cases e : y = x
  ·subst e
   rw [hux] at hy
   rcases hF k hy with q | q
   ·exact .inl ⟨_, q⟩
   ·exact .inr q
  ·rw [hup y e] at hy
   exact .inl ⟨_, hy⟩
 ·by_cases e : y = x
  ·subst e
   rw [hux] at hy
   exact .inr hy
  ·rw [hup y e] at hy
   exact .inl ⟨_, hy⟩
theorem KAt.far {W W' : World} {Y : KLay} {K : KSt} {G : Nat -> Prop} (h : KAt W Y K G) (hk : ∀ k, G k -> W'.heap[k]? = W.heap[k]?) : KAt W' Y K G := by
 obtain ⟨F, h1, rfl⟩ := h
 exact ⟨F, ⟨fun x => (h1.res x).far (fun k hf => hk k ⟨x, hf⟩), h1.dis⟩, rfl⟩
theorem KAt.below {W W' : World} {Y : KLay} {K : KSt} {G : Nat -> Prop} (h : KAt W Y K G) (hb : Below W.heap.size W W') : KAt W' Y K G := h.far (fun k hk => hb.block k (h.lt hk))
theorem KAt.keeps {W W' : World} {Y : KLay} {K : KSt} {G G2 : Nat -> Prop} (h : KAt W Y K G) (hb : Keeps G2 W W') (hd : ∀ k, G k -> ¬ G2 k) : KAt W' Y K G := h.far (fun k hk => hb.block k (h.lt hk) (hd k hk))
theorem KIs.setLoc {W W' : World} {Y : KLay} {F : Ix -> Nat -> Prop} {K : KSt} (h : KIs W Y F K) {i : Nat} (hi : i < K.seats.length) {F' : Nat -> Prop} {S' : LSt} {ps' : List Nat} (hk : Keeps (F (.loc i)) W W') (hF : ∀ k, F' k -> F (.loc i) k ∨ W.heap.size <= k) (hl : LocAt W' (Y.lb i) (Y.llo i) ps' F' S') :
  ∃ G', KAt W' Y (K.setSeat i { K.seat i with loc := S' }) G' /\ Moves (All F) G' W W' /\ ∀ k, G' k -> All F k ∨ F' k := by
 refine h.upd (.loc i) hk hF ⟨fun k hf => hl.lt hf, fun W2 h2 hi' => ⟨ps', ?_⟩⟩ (fun y hy G W2 q => ?_)
 ·rw [seat_set K i i _ hi, if_pos rfl]
  exact hl.far h2
 ·cases y with
  | kern => exact q
  | port => exact q
  | conf =>
   refine ⟨q.1, fun j hj => ?_⟩
   rw [seats_set] at hj
   have := q.2 j hj
   rw [seat_set K i j _ hi]
   by_cases e : i = j
   ·subst e; rw [if_pos rfl]; exact this
   ·rw [if_neg e]; exact this
  | row => unfold resP at q |-; rw [seats_set]; exact q
  | seat j =>
   intro hj
   rw [seats_set] at hj
   have := q hj
   rw [seat_set K i j _ hi]
   by_cases e : i = j
   ·subst e; rw [if_pos rfl]; exact this
   ·rw [if_neg e]; exact this
  | loc j =>
   intro hj
   rw [seats_set] at hj
   rw [seat_set K i j _ hi, if_neg (fun e => hy (by rw [e]))]
   exact q hj
  | ring j =>
   intro hj
   rw [seats_set] at hj
   have := q hj
   rw [seat_set K i j _ hi]
   by_cases e : i = j
   ·subst e; rw [if_pos rfl]; exact this
   ·rw [if_neg e]; exact this
theorem KIs.setRing {W W' : World} {Y : KLay} {F : Ix -> Nat -> Prop} {K : KSt} (h : KIs W Y F K) {i : Nat} (hi : i < K.seats.length) {q' : List Int} (hk : W.grownBy W' (some (Y.rb i))) (hl : RingAt W' (Y.rb i) 16 q') :
  ∃ G', KAt W' Y (K.setSeat i { K.seat i with inp := q' }) G' /\ Moves (All F) G' W W' /\ ∀ k, G' k -> All F k := by
 have hx := (h.res (.ring i))
 have hb := (hx.now hi).1
 have hkk : Keeps (F (.ring i)) W W' := Keeps.of_grown hk (fun k e => by injection e with e; rw [<- e]; exact hb)
 have hx2 : Foot (resP Y (K.setSeat i { K.seat i with inp := q' }) (.ring i) (F (.ring i))) (F (.ring i)) W' := by
  refine ⟨fun k hf => Nat.lt_of_lt_of_le (hx.lt k hf) hkk.size, fun W2 h2 hi' => ?_⟩
  rw [seat_set K i i _ hi, if_pos rfl]
  exact ⟨hb, hl.keep (h2 _ hb)⟩
 have hK2 : ∀ y, y ≠ (.ring i) -> ∀ G W2, resP Y K y G W2 -> resP Y (K.setSeat i { K.seat i with inp := q' }) y G W2 := by
  intro y hy G W2 q
  cases y with
  | kern => exact q
  | port => exact q
  | conf =>
   refine ⟨q.1, fun j hj => ?_⟩
   rw [seats_set] at hj
   have := q.2 j hj
   rw [seat_set K i j _ hi]
   by_cases e : i = j
   ·subst e; rw [if_pos rfl]; exact this
   ·rw [if_neg e]; exact this
  | row => unfold resP at q |-; rw [seats_set]; exact q
  | seat j =>
   intro hj
   rw [seats_set] at hj
   have := q hj
   rw [seat_set K i j _ hi]
   by_cases e : i = j
   ·subst e; rw [if_pos rfl]; exact this
   ·rw [if_neg e]; exact this
  | ring j =>
   intro hj
   rw [seats_set] at hj
   rw [seat_set K i j _ hi, if_neg (fun e => hy (by rw [e]))]
   exact q hj
  | loc j =>
   intro hj
   rw [seats_set] at hj
   have := q hj
   rw [seat_set K i j _ hi]
   by_cases e : i = j
   ·subst e; rw [if_pos rfl]; exact this
   ·rw [if_neg e]; exact this
 obtain ⟨G', h1, h2, h3⟩ := h.upd (.ring i) hkk (fun k q => .inl q) hx2 hK2
 exact ⟨G', h1, h2, fun k hk => (h3 k hk).elim id (fun q => ⟨_, q⟩)⟩
theorem KIs.setVm {W W' : World} {Y : KLay} {F : Ix -> Nat -> Prop} {K : KSt} (h : KIs W Y F K) {i : Nat} (hi : i < K.seats.length) {v' : Vm} (hk : W.grownBy W' (some (Y.sb i))) (hv : v'.mem.length = 16) (hl : W'.heap[Y.sb i]? = some (.cells (sCells Y i { K.seat i with vm := v' }).toArray 105 (0, 0))) :
  ∃ G', KAt W' Y (K.setSeat i { K.seat i with vm := v' }) G' /\ Moves (All F) G' W W' /\ ∀ k, G' k -> All F k := by
 have hx := (h.res (.seat i))
 have hb := (hx.now hi).1
 have hkk : Keeps (F (.seat i)) W W' := Keeps.of_grown hk (fun k e => by injection e with e; rw [<- e]; exact hb)
 have hx2 : Foot (resP Y (K.setSeat i { K.seat i with vm := v' }) (.seat i) (F (.seat i))) (F (.seat i)) W' := by
  refine ⟨fun k hf => Nat.lt_of_lt_of_le (hx.lt k hf) hkk.size, fun W2 h2 hi' => ?_⟩
  rw [seat_set K i i _ hi, if_pos rfl]
  exact ⟨hb, (h2 _ hb).trans hl, hv⟩
 have hK2 : ∀ y, y ≠ (.seat i) -> ∀ G W2, resP Y K y G W2 -> resP Y (K.setSeat i { K.seat i with vm := v' }) y G W2 := by
  intro y hy G W2 q
  cases y with
  | kern => exact q
  | port => exact q
  | conf =>
   refine ⟨q.1, fun j hj => ?_⟩
   rw [seats_set] at hj
   have := q.2 j hj
   rw [seat_set K i j _ hi]
   by_cases e : i = j
   ·subst e; rw [if_pos rfl]; exact this
   ·rw [if_neg e]; exact this
  | row => unfold resP at q |-; rw [seats_set]; exact q
  | seat j =>
   intro hj
   rw [seats_set] at hj
   rw [seat_set K i j _ hi, if_neg (fun e => hy (by rw [e]))]
   exact q hj
  | ring j =>
   intro hj
   rw [seats_set] at hj
   have := q hj
   rw [seat_set K i j _ hi]
   by_cases e : i = j
   ·subst e; rw [if_pos rfl]; exact this
   ·rw [if_neg e]; exact this
  | loc j =>
   intro hj
   rw [seats_set] at hj
   have := q hj
   rw [seat_set K i j _ hi]
   by_cases e : i = j
   ·subst e; rw [if_pos rfl]; exact this
   ·rw [if_neg e]; exact this
 obtain ⟨G', h1, h2, h3⟩ := h.upd (.seat i) hkk (fun k q => .inl q) hx2 hK2
 exact ⟨G', h1, h2, fun k hk => (h3 k hk).elim id (fun q => ⟨_, q⟩)⟩
theorem KIs.setKern {W W' : World} {Y : KLay} {F : Ix -> Nat -> Prop} {K K' : KSt} (h : KIs W Y F K) (hk : W.grownBy W' (some Y.kb)) (h1 : K'.cfg = K.cfg) (h2 : K'.seats = K.seats) (h3 : K'.ports = K.ports) (hl : W'.heap[Y.kb]? = some (.cells (kCells Y K').toArray 100 (0, 0))) :
  ∃ G', KAt W' Y K' G' /\ Moves (All F) G' W W' /\ ∀ k, G' k -> All F k := by
 have hx := (h.res .kern)
 have hb := hx.now.1
 have hkk : Keeps (F .kern) W W' := Keeps.of_grown hk (fun k e => by injection e with e; rw [<- e]; exact hb)
 have hx2 : Foot (resP Y (K') .kern (F .kern)) (F .kern) W' := by
  refine ⟨fun k hf => Nat.lt_of_lt_of_le (hx.lt k hf) hkk.size, fun W2 h2 => ?_⟩
  exact ⟨hb, (h2 _ hb).trans hl⟩
 have hK2 : ∀ y, y ≠ .kern -> ∀ G W2, resP Y K y G W2 -> resP Y (K') y G W2 := by
  intro y hy G W2 q
  obtain ⟨n, s, l, m, c, ss, pp⟩ := K'
  simp only at h1 h2 h3
  subst h1 h2 h3
  cases y with
  | kern => exact absurd rfl hy
  | port => exact q
  | conf => exact q
  | row => exact q
  | seat j => exact q
  | ring j => exact q
  | loc j => exact q
 obtain ⟨G', g1, g2, g3⟩ := h.upd .kern hkk (fun k q => .inl q) hx2 hK2
 exact ⟨G', g1, g2, fun k hk => (g3 k hk).elim id (fun q => ⟨_, q⟩)⟩
theorem KIs.setPorts {W W' : World} {Y : KLay} {F : Ix -> Nat -> Prop} {K : KSt} (h : KIs W Y F K) {S' : PSt} (hk : Keeps (Between Y.plo Y.phi) W W') (hl : PortsIs W' Y.pb Y.plo Y.phi S') :
  ∃ G', KAt W' Y { K with ports := S' } G' /\ Moves (All F) G' W W' /\ ∀ k, G' k -> All F k := by
 have hx := (h.res .port)
 have hb := hx.now.1
 have hkk : Keeps (F .port) W W' := hk.mono (fun k _ q => (hb k).2 q)
 have hx2 : Foot (resP Y ({ K with ports := S' }) .port (F .port)) (F .port) W' := by
  refine ⟨fun k hf => Nat.lt_of_lt_of_le (hx.lt k hf) hkk.size, fun W2 h2 => ?_⟩
  exact ⟨hb, hl.same (fun k hk => h2 k ((hb k).2 hk))⟩
 have hK2 : ∀ y, y ≠ .port -> ∀ G W2, resP Y K y G W2 -> resP Y ({ K with ports := S' }) y G W2 := by
  intro y hy G W2 q
  cases y with
  | kern => exact q
  | port => exact absurd rfl hy
  | conf => exact q
  | row => exact q
  | seat j => exact q
  | ring j => exact q
  | loc j => exact q
 obtain ⟨G', g1, g2, g3⟩ := h.upd .port hkk (fun k q => .inl q) hx2 hK2
 exact ⟨G', g1, g2, fun k hk => (g3 k hk).elim id (fun q => ⟨_, q⟩)⟩
end Go.Proofs.YtooeeiiiflfckaaGreat
/- the kernel's pieces: what each method that it calls does to the whole. -/
namespace Go.Proofs.YtooeeiiiflfckaaGreat
open Go.RowKit
theorem KAt.kern {W : World} {Y : KLay} {K : KSt} {G : Nat -> Prop} (h : KAt W Y K G) : W.heap[Y.kb]? = some (.cells (kCells Y K).toArray 100 (0, 0)) /\ G Y.kb := by
 obtain ⟨F, h1, rfl⟩ := h
 exact ⟨(h1.res .kern).now.2, _, (h1.res .kern).now.1⟩
theorem KAt.seat {W : World} {Y : KLay} {K : KSt} {G : Nat -> Prop} (h : KAt W Y K G) {i : Nat} (hi : i < K.seats.length) : W.heap[Y.sb i]? = some (.cells (sCells Y i (K.seat i)).toArray 105 (0, 0)) /\ G (Y.sb i) /\ (K.seat i).vm.mem.length = 16 := by
 obtain ⟨F, h1, rfl⟩ := h
 have := (h1.res (.seat i)).now hi
 exact ⟨this.2.1, ⟨_, this.1⟩, this.2.2⟩
theorem KAt.row {W : World} {Y : KLay} {K : KSt} {G : Nat -> Prop} (h : KAt W Y K G) : W.ownsRow 0 101 1 Y.sv K.seats.length ((List.range K.seats.length).map (fun i => ptrV (Y.sb i))) := by
 obtain ⟨F, h1, rfl⟩ := h
 exact (h1.res .row).now
theorem KAt.conf {W : World} {Y : KLay} {K : KSt} {G : Nat -> Prop} (h : KAt W Y K G) : CfgIs W Y.pv Y.wv Y.ov K.cfg /\ ∀ i, i < K.seats.length -> CodeV W (Y.cv i) (K.seat i).code := by
 obtain ⟨F, h1, rfl⟩ := h
 exact (h1.res .conf).now
theorem KAt.port {W : World} {Y : KLay} {K : KSt} {G : Nat -> Prop} (h : KAt W Y K G) : PortsIs W Y.pb Y.plo Y.phi K.ports := by
 obtain ⟨F, h1, rfl⟩ := h
 exact (h1.res .port).now.2
theorem KAt.ring {W : World} {Y : KLay} {K : KSt} {G : Nat -> Prop} (h : KAt W Y K G) {i : Nat} (hi : i < K.seats.length) : RingAt W (Y.rb i) 16 (K.seat i).inp := by
 obtain ⟨F, h1, rfl⟩ := h
 exact ((h1.res (.ring i)).now hi).2
theorem KAt.loc {W : World} {Y : KLay} {K : KSt} {G : Nat -> Prop} (h : KAt W Y K G) {i : Nat} (hi : i < K.seats.length) : ∃ ps F, LocAt W (Y.lb i) (Y.llo i) ps F (K.seat i).loc := by
 obtain ⟨F, h1, rfl⟩ := h
 obtain ⟨ps, hl⟩ := (h1.res (.loc i)).now hi
 exact ⟨ps, _, hl⟩
theorem KAt.seats {W : World} {Y : KLay} {K : KSt} {G : Nat -> Prop} (h : KAt W Y K G) : ∃ a c, Y.sv = .slice a K.seats.length c /\ ∀ i, i < K.seats.length -> ∃ b, a = some ⟨b, 0, none⟩ /\ W.cell? ⟨b, i, none⟩ = some (ptrV (Y.sb i)) := by
 have hr := h.row
 obtain ⟨a, c, e⟩ := own_shape hr
 refine ⟨a, c, e, fun i hi => ?_⟩
 rw [e] at hr
 obtain ⟨b, rfl⟩ : ∃ b, a = some ⟨b, 0, none⟩ := by
  rcases hr.2 with ⟨h1, h2⟩ | ⟨g, cap, cur, h1, -⟩
  ·exfalso
   omega
  ·injection h1 with h1
   exact ⟨g, h1⟩
 refine ⟨b, rfl, ?_⟩
 rw [hr.cellAt i (by omega)]
 simp [hi]
theorem k_pick (Y : KLay) (K : KSt) (G : Nat -> Prop) (j : Nat) (m : Int) (i d now : Int) (w : World) (h : KAt w Y K G) (hj : j < K.seats.length) (hw : LWf (K.seat j).loc m)  :
  Calls Tryz.prog 70 #[.pointer (some ⟨Y.lb j, 0, none⟩), .int .i64 i, .int .i64 d, .int .i64 now] w fun e w' => ∃ a n c, e = .returned (.tuple #[.slice a n c, .int .i64 (pickErr (K.seat j).loc i d now)]) /\ ∃ G', KAt w' Y (K.setSeat j { K.seat j with loc := pickSt (K.seat j).loc i d now }) G' /\ Moves G G' w w' /\ EvRow w' w.heap.size (.slice a n c) (pickEv (K.seat j).loc i d now) /\ Off (.slice a n c) G' := by
 obtain ⟨F, hI, rfl⟩ := h
 obtain ⟨ps, hl⟩ := (hI.res (.loc j)).now hj
 refine (pick_any _ _ ps _ _ m i d now w hl hw).mono ?_
 rintro e w' ⟨a, n, c, rfl, F', h1, h2, h3, -, h5⟩
 obtain ⟨G', k1, k2, k3⟩ := hI.setLoc hj h3 h5 h1
 refine ⟨a, n, c, rfl, G', k1, k2, h2, fun g hg hG => ?_⟩
 rcases k3 g hG with q | q
 ·have := hI.lt q
  have := (World.ownsRow.lt h2 g hg).1
  omega
 ·exact h1.evApart h2 g hg q
theorem k_fail (Y : KLay) (K : KSt) (G : Nat -> Prop) (j : Nat) (m : Int)  (w : World) (h : KAt w Y K G) (hj : j < K.seats.length) (hw : LWf (K.seat j).loc m)  :
  Calls Tryz.prog 80 #[.pointer (some ⟨Y.lb j, 0, none⟩)] w fun e w' => ∃ a n c, e = .returned (.tuple #[.slice a n c, .int .i64 (runE (K.seat j).loc)]) /\ ∃ G', KAt w' Y (K.setSeat j { K.seat j with loc := failS (K.seat j).loc }) G' /\ Moves G G' w w' /\ EvRow w' w.heap.size (.slice a n c) (failEv (K.seat j).loc) /\ Off (.slice a n c) G' := by
 obtain ⟨F, hI, rfl⟩ := h
 obtain ⟨ps, hl⟩ := (hI.res (.loc j)).now hj
 refine (fail_any _ _ ps _ _ m w hl hw).mono ?_
 rintro e w' ⟨a, n, c, rfl, F', h1, h2, h3, -, h5⟩
 obtain ⟨G', k1, k2, k3⟩ := hI.setLoc hj h3 h5 h1
 refine ⟨a, n, c, rfl, G', k1, k2, h2, fun g hg hG => ?_⟩
 rcases k3 g hG with q | q
 ·have := hI.lt q
  have := (World.ownsRow.lt h2 g hg).1
  omega
 ·exact h1.evApart h2 g hg q
theorem k_begin (Y : KLay) (K : KSt) (G : Nat -> Prop) (j : Nat) (m : Int) (now : Int) (w : World) (h : KAt w Y K G) (hj : j < K.seats.length) (hw : LWf (K.seat j).loc m) (hm : m < 4000000000000000000) (hc : clockB now = true) :
  Calls Tryz.prog 44 #[.pointer (some ⟨Y.lb j, 0, none⟩), .int .i64 now] w fun e w' => ∃ a n c, e = .returned (.tuple #[.slice a n c, .int .i64 0]) /\ ∃ G', KAt w' Y (K.setSeat j { K.seat j with loc := begS (K.seat j).loc now }) G' /\ Moves G G' w w' /\ EvRow w' w.heap.size (.slice a n c) (begE (K.seat j).loc now) /\ Off (.slice a n c) G' := by
 obtain ⟨F, hI, rfl⟩ := h
 obtain ⟨ps, hl⟩ := (hI.res (.loc j)).now hj
 refine (begin_any _ _ ps _ _ m now w hl hw hm hc).mono ?_
 rintro e w' ⟨a, n, c, rfl, F', h1, h2, h3, -, h5⟩
 obtain ⟨G', k1, k2, k3⟩ := hI.setLoc hj h3 h5 h1
 refine ⟨a, n, c, rfl, G', k1, k2, h2, fun g hg hG => ?_⟩
 rcases k3 g hG with q | q
 ·have := hI.lt q
  have := (World.ownsRow.lt h2 g hg).1
  omega
 ·exact h1.evApart h2 g hg q
theorem k_run (Y : KLay) (K : KSt) (G : Nat -> Prop) (j : Nat) (m : Int)  (w : World) (h : KAt w Y K G) (hj : j < K.seats.length) (hw : LWf (K.seat j).loc m)  :
  Calls Tryz.prog 118 #[.pointer (some ⟨Y.lb j, 0, none⟩)] w fun e w' => ∃ a n c, e = .returned (.tuple #[vdV (runV (K.seat j).loc), .slice a n c, .int .i64 (runE (K.seat j).loc)]) /\ ∃ G', KAt w' Y (K.setSeat j { K.seat j with loc := runS (K.seat j).loc }) G' /\ Moves G G' w w' /\ EvRow w' w.heap.size (.slice a n c) (runEv (K.seat j).loc) /\ Off (.slice a n c) G' := by
 obtain ⟨F, hI, rfl⟩ := h
 obtain ⟨ps, hl⟩ := (hI.res (.loc j)).now hj
 refine (run_any _ _ ps _ _ m w hl hw).mono ?_
 rintro e w' ⟨a, n, c, rfl, F', h1, h2, h3, -, h5⟩
 obtain ⟨G', k1, k2, k3⟩ := hI.setLoc hj h3 h5 h1
 refine ⟨a, n, c, rfl, G', k1, k2, h2, fun g hg hG => ?_⟩
 rcases k3 g hG with q | q
 ·have := hI.lt q
  have := (World.ownsRow.lt h2 g hg).1
  omega
 ·exact h1.evApart h2 g hg q
theorem k_ready (Y : KLay) (K : KSt) (G : Nat -> Prop) (j : Nat) (w : World) (h : KAt w Y K G) (hj : j < K.seats.length) :
  Calls Tryz.prog 65 #[.pointer (some ⟨Y.lb j, 0, none⟩)] w fun e w' => e = .returned (.bool (K.seat j).ready) /\ w' = w := by
 obtain ⟨ps, F, hl⟩ := h.loc hj
 exact ready_any _ _ ps F _ w hl
theorem k_jobs (Y : KLay) (K : KSt) (G : Nat -> Prop) (j : Nat) (w : World) (h : KAt w Y K G) (hj : j < K.seats.length) :
  Calls Tryz.prog 48 #[.pointer (some ⟨Y.lb j, 0, none⟩)] w fun e w' => ∃ v, e = .returned v /\ JobRow w' w.heap.size v (K.seat j).loc.js /\ Below w.heap.size w w' := by
 obtain ⟨ps, F, hl⟩ := h.loc hj
 exact jobs_any _ _ ps F _ w hl
theorem k_push (Y : KLay) (K : KSt) (G : Nat -> Prop) (j : Nat) (x : Int) (w : World) (h : KAt w Y K G) (hj : j < K.seats.length) :
  Calls Tryz.prog 69 #[.pointer (some ⟨Y.rb j, 0, none⟩), .int .i64 x] w fun e w' => ∃ old, e = .returned (.tuple #[vi old, .bool (decide ((K.seat j).inp.length = 16))]) /\ ∃ G', KAt w' Y (K.setSeat j { K.seat j with inp := pushQ 16 (K.seat j).inp x }) G' /\ Moves G G' w w' := by
 obtain ⟨F, hI, rfl⟩ := h
 refine (ring_push _ 16 _ x w ((hI.res (.ring j)).now hj).2).mono ?_
 rintro e w' ⟨old, rfl, h1, h2⟩
 obtain ⟨G', k1, k2, -⟩ := hI.setRing hj h2 h1
 exact ⟨old, rfl, G', k1, k2⟩
theorem k_pop (Y : KLay) (K : KSt) (G : Nat -> Prop) (j : Nat) (w : World) (h : KAt w Y K G) (hj : j < K.seats.length) :
  Calls Tryz.prog 103 #[.pointer (some ⟨Y.rb j, 0, none⟩)] w fun e w' => e = .returned (.tuple #[vi ((K.seat j).inp.headD 0), .bool (!(K.seat j).inp.isEmpty)]) /\ ∃ G', KAt w' Y (K.setSeat j { K.seat j with inp := (K.seat j).inp.tail }) G' /\ Moves G G' w w' := by
 obtain ⟨F, hI, rfl⟩ := h
 refine (ring_pop _ 16 _ w ((hI.res (.ring j)).now hj).2).mono ?_
 rintro e w' ⟨rfl, h1, h2⟩
 obtain ⟨G', k1, k2, -⟩ := hI.setRing hj h2 h1
 exact ⟨rfl, G', k1, k2⟩
theorem k_write (Y : KLay) (K : KSt) (G : Nat -> Prop) (part port x : Int) (w : World) (h : KAt w Y K G) :
  Calls Tryz.prog 117 #[.pointer (some ⟨Y.pb, 0, none⟩), .int .i64 part, .int .i64 port, .int .i64 x] w fun e w' => e = .returned (.tuple #[.bool (wDrop K.ports part port x), .int .i64 (wErr K.ports part port x)]) /\ ∃ G', KAt w' Y { K with ports := wSt K.ports part port x } G' /\ Moves G G' w w' := by
 obtain ⟨F, hI, rfl⟩ := h
 refine (ports_write _ _ _ _ part port x w (hI.res .port).now.2).mono ?_
 rintro e w' ⟨rfl, h1, h2⟩
 obtain ⟨G', k1, k2, -⟩ := hI.setPorts h2 h1
 exact ⟨rfl, G', k1, k2⟩
theorem k_take (Y : KLay) (K : KSt) (G : Nat -> Prop) (part port : Int) (w : World) (h : KAt w Y K G) :
  Calls Tryz.prog 116 #[.pointer (some ⟨Y.pb, 0, none⟩), .int .i64 part, .int .i64 port] w fun e w' => e = .returned (.tuple #[.int .i64 (tVal K.ports part port), .bool (tIs K.ports part port), .int .i64 (tErr K.ports part port)]) /\ ∃ G', KAt w' Y { K with ports := tSt K.ports part port } G' /\ Moves G G' w w' := by
 obtain ⟨F, hI, rfl⟩ := h
 refine (ports_take _ _ _ _ part port w (hI.res .port).now.2).mono ?_
 rintro e w' ⟨rfl, h1, h2⟩
 obtain ⟨G', k1, k2, -⟩ := hI.setPorts h2 h1
 exact ⟨rfl, G', k1, k2⟩
end Go.Proofs.YtooeeiiiflfckaaGreat
/- package mode: may, New, Over, Boundary. -/
namespace Go.Proofs.YtooeeiiiflfckaaGreat
open Go.RowKit
def modV (m : Mod) : Value := .agg #[.int .i64 m.level, .int .i64 m.quiet, .bool m.loud]
def modMay (m : Mod) : Bool := decide ((m.level = 0 ∨ m.level = 1) /\ 0 <= m.quiet /\ m.quiet <= 16)
def boundEr (m : Mod) (q : Int) : Int := if modMay m = true /\ 1 <= q /\ q <= 16 then 0 else 1900
theorem modeMay_any (g : Nat) (m : Mod) (w : World) (x0 : w.cell? ⟨g, 0, none⟩ = some (.int .i64 m.level)) (x1 : w.cell? ⟨g, 1, none⟩ = some (.int .i64 m.quiet)) :
  Calls Tryz.prog 100 #[.pointer (some ⟨g, 0, none⟩)] w fun e w' => e = .returned (.bool (modMay m)) /\ w' = w := by
 obtain ⟨l, q, b⟩ := m
 simp only at x0 x1
 go_enter Tryz.func100, Tryz.ntmps100
 by_cases h0 : l = 0 ∨ l = 1
 ·have HR : Hid (modMay ⟨l, q, b⟩ = decide (0 <= q /\ q <= 16)) := Lib.hid (by simp [modMay, h0])
  have e0 : (l == 0) = true ∨ (l == 0) = false /\ (l == 1) = true := by rcases h0 with h | h <;> simp [h]
  clear h0
  by_cases h2 : 0 <= q
  ·have d2 : decide (q >= 0) = true := decide_eq_true h2
   by_cases h3 : q <= 16
   ·have d3 : decide (q <= 16) = true := decide_eq_true h3
    have HR : Hid (modMay ⟨l, q, b⟩ = true) := Lib.hid (by rw [HR.out]; simp [h2, h3])
    clear h2 h3
    rcases e0 with e0 | ⟨e0, e1⟩ <;> (go_wp2_with fail; go_ret; exact ⟨ret_bool HR.out.symm, rfl⟩)
   ·have d3 : decide (q <= 16) = false := decide_eq_false h3
    have HR : Hid (modMay ⟨l, q, b⟩ = false) := Lib.hid (by rw [HR.out]; simp [h3])
    clear h2 h3
    rcases e0 with e0 | ⟨e0, e1⟩ <;> (go_wp2_with fail; go_ret; exact ⟨ret_bool HR.out.symm, rfl⟩)
  ·have d2 : decide (q >= 0) = false := decide_eq_false h2
   have HR : Hid (modMay ⟨l, q, b⟩ = false) := Lib.hid (by rw [HR.out]; simp [h2])
   clear h2
   rcases e0 with e0 | ⟨e0, e1⟩ <;> (go_wp2_with fail; go_ret; exact ⟨ret_bool HR.out.symm, rfl⟩)
 ·have e0 : (l == 0) = false := by simp; omega
  have e1 : (l == 1) = false := by simp; omega
  have HR : Hid (modMay ⟨l, q, b⟩ = false) := Lib.hid (by simp [modMay, h0])
  clear h0
  go_wp2_with fail
  go_ret
  exact ⟨ret_bool HR.out.symm, rfl⟩
theorem modeNew_any (w : World) : Calls Tryz.prog 38 #[] w fun e w' => e = .returned (modV ⟨0, 0, false⟩) /\ Below w.heap.size w w' := by
 obtain ⟨wa, ga, hw_wa, hg_ga, hb_wa, hk_ga, hs_wa⟩ := alloc_all w (.cells #[.int .i64 0, .int .i64 0, .bool false] 87)
 have c0 := BlockIs.of hk_ga 0 (.int .i64 0) rfl
 have c1 := BlockIs.of hk_ga 1 (.int .i64 0) rfl
 have c2 := BlockIs.of hk_ga 2 (.bool false) rfl
 have HB := Lib.hid hb_wa
 go_enter Tryz.func38, Tryz.ntmps38
 go_wp2_with fail
 rw [<- hw_wa]
 (try rw [<- hg_ga])
 refine bodyPost_ret (v := modV ⟨0, 0, false⟩) (by simp [results, Tryz.results38, go_sem, c0, c1, c2, modV]) rfl ⟨rfl, by subst hg_ga; exact HB.out⟩
theorem modeOver_any (m : Mod) (w : World) : Calls Tryz.prog 119 #[modV m] w fun e w' => e = .returned (modV overM) /\ Below w.heap.size w w' := by
 unfold modV
 obtain ⟨wa, ga, hw_wa, hg_ga, hb_wa, hk_ga, hs_wa⟩ := alloc_all w (.cells #[.int .i64 m.level, .int .i64 m.quiet, .bool m.loud] 87)
 obtain ⟨wb, gb, hw_wb, hg_gb, hb_wb, hk_gb, hs_wb⟩ := alloc_all wa (.cells #[.int .i64 1, .int .i64 0, .bool true] 87)
 have c0 := BlockIs.of hk_gb 0 (.int .i64 1) rfl
 have c1 := BlockIs.of hk_gb 1 (.int .i64 0) rfl
 have c2 := BlockIs.of hk_gb 2 (.bool true) rfl
 have HB := Lib.hid (bthen hb_wa hb_wb)
 go_enter Tryz.func119, Tryz.ntmps119
 go_wp2_with fail
 rw [<- hw_wa, <- hw_wb]
 (try rw [<- hs_wa])
 (try rw [<- hg_gb])
 (try rw [<- hg_ga])
 refine bodyPost_ret (v := modV overM) (by simp [results, Tryz.results119, go_sem, c0, c1, c2, modV, overM]) rfl ⟨rfl, by subst hg_ga; exact HB.out⟩
set_option maxRecDepth 100000 in
set_option maxHeartbeats 1000000 in
theorem boundary_any (m : Mod) (q : Int) (b : Bool) (w : World) :
  Calls Tryz.prog 66 #[modV m, .int .i64 q, .bool b] w fun e w' => e = .returned (.tuple #[modV (boundM m q b), .int .i64 (boundEr m q)]) /\ Below w.heap.size w w' := by
 obtain ⟨l, qu, lo⟩ := m
 unfold modV
 simp only
 obtain ⟨wa, ga, hw_wa, hg_ga, hb_wa, hk_ga, hs_wa⟩ := alloc_all w (.cells #[.int .i64 l, .int .i64 qu, .bool lo] 87)
 obtain ⟨wb, gb, hw_wb, hg_gb, hb_wb, hk_gb, hs_wb⟩ := alloc_all wa (.cells #[.int .i64 0, .int .i64 0, .bool false] 87)
 have hka := keep_at hk_ga hb_wb
 have x0 := BlockIs.of hka 0 (.int .i64 l) rfl
 have x1 := BlockIs.of hka 1 (.int .i64 qu) rfl
 have x2 := BlockIs.of hka 2 (.bool lo) rfl
 have HB := Lib.hid (bthen hb_wa hb_wb)
 have HKB := Lib.hid hk_gb
 have HLT := Lib.hid (show w.heap.size <= gb /\ gb < wb.heap.size by omega)
 clear hka hk_ga hk_gb hb_wa hb_wb
 go_enter Tryz.func66, Tryz.ntmps66
 go_wp2_with fail
 rw [<- hw_wa, <- hw_wb]
 (try rw [<- hs_wa])
 (try rw [<- hg_gb])
 (try rw [<- hg_ga])
 clear hw_wa hw_wb hg_ga hg_gb hs_wa hs_wb
 refine (modeMay_any ga ⟨l, qu, lo⟩ _ x0 x1).mono ?_
 rintro e w' ⟨rfl, hww⟩
 subst w'
 by_cases hm : modMay ⟨l, qu, lo⟩ = true
 ·rw [hm]
  have HMT := Lib.hid hm
  have HM : Hid ((l = 0 ∨ l = 1) /\ 0 <= qu /\ qu <= 16) := Lib.hid (by simpa [modMay] using hm)
  clear hm
  by_cases h1 : q < 1
  ·have d1 : decide (q < 1) = true := decide_eq_true h1
   have HR : Hid (boundM ⟨l, qu, lo⟩ q b = ⟨0, 0, false⟩) := Lib.hid (by unfold boundM; rw [if_pos (Or.inr (Or.inl h1))])
   have HE : Hid (boundEr ⟨l, qu, lo⟩ q = 1900) := Lib.hid (by unfold boundEr; rw [if_neg (by omega)])
   clear h1
   have hkx := HKB.out
   obtain ⟨wz, hw_wz⟩ : ∃ wz, wz = put3 wb gb (.int .i64 0) (.int .i64 0) (.bool false) := ⟨_, rfl⟩
   have hk_wz := put3_at hkx (.int .i64 0) (.int .i64 0) (.bool false)
   have hg_wz := put3_grown wb gb (.int .i64 0) (.int .i64 0) (.bool false)
   rw [<- hw_wz] at hk_wz hg_wz
   unfold put3 at hw_wz
   have o_wz_0 := BlockIs.of hkx 0 _ rfl
   have o_wz_1 := BlockIs.of hkx 1 _ rfl
   have o_wz_2 := BlockIs.of hkx 2 _ rfl
   have f_wz := thaw hkx
   have e_wz_0 := BlockIs.of hk_wz 0 _ rfl
   have e_wz_1 := BlockIs.of hk_wz 1 _ rfl
   have e_wz_2 := BlockIs.of hk_wz 2 _ rfl
   have HBZ := Lib.hid (bput HB.out hg_wz HLT.out.1 (Nat.le_refl _))
   clear hkx hk_wz hg_wz
   go_wp2_with (first | (rw [<- hw_wz]; clear hw_wz) | fail)
   refine bodyPost_ret (v := .tuple #[.agg #[.int .i64 0, .int .i64 0, .bool false], .int .i64 1900]) (by simp [results, Tryz.results66, go_sem, e_wz_0, e_wz_1, e_wz_2]) rfl ⟨by rw [HR.out, HE.out], HBZ.out⟩
  have d1 : decide (q < 1) = false := decide_eq_false h1
  by_cases h2 : q > 16
  ·have d2 : decide (q > 16) = true := decide_eq_true h2
   have HR : Hid (boundM ⟨l, qu, lo⟩ q b = ⟨0, 0, false⟩) := Lib.hid (by unfold boundM; rw [if_pos (Or.inr (Or.inr h2))])
   have HE : Hid (boundEr ⟨l, qu, lo⟩ q = 1900) := Lib.hid (by unfold boundEr; rw [if_neg (by omega)])
   clear h1 h2
   have hkx := HKB.out
   obtain ⟨wz, hw_wz⟩ : ∃ wz, wz = put3 wb gb (.int .i64 0) (.int .i64 0) (.bool false) := ⟨_, rfl⟩
   have hk_wz := put3_at hkx (.int .i64 0) (.int .i64 0) (.bool false)
   have hg_wz := put3_grown wb gb (.int .i64 0) (.int .i64 0) (.bool false)
   rw [<- hw_wz] at hk_wz hg_wz
   unfold put3 at hw_wz
   have o_wz_0 := BlockIs.of hkx 0 _ rfl
   have o_wz_1 := BlockIs.of hkx 1 _ rfl
   have o_wz_2 := BlockIs.of hkx 2 _ rfl
   have f_wz := thaw hkx
   have e_wz_0 := BlockIs.of hk_wz 0 _ rfl
   have e_wz_1 := BlockIs.of hk_wz 1 _ rfl
   have e_wz_2 := BlockIs.of hk_wz 2 _ rfl
   have HBZ := Lib.hid (bput HB.out hg_wz HLT.out.1 (Nat.le_refl _))
   clear hkx hk_wz hg_wz
   go_wp2_with (first | (rw [<- hw_wz]; clear hw_wz) | fail)
   refine bodyPost_ret (v := .tuple #[.agg #[.int .i64 0, .int .i64 0, .bool false], .int .i64 1900]) (by simp [results, Tryz.results66, go_sem, e_wz_0, e_wz_1, e_wz_2]) rfl ⟨by rw [HR.out, HE.out], HBZ.out⟩
  have d2 : decide (q > 16) = false := decide_eq_false h2
  have HR : Hid (boundM ⟨l, qu, lo⟩ q b = if l = 0 ∨ lo = true ∨ b = true then ⟨l, 0, false⟩ else if q <= qu + 1 then ⟨0, 0, false⟩ else ⟨1, qu + 1, false⟩) := Lib.hid (by unfold boundM; rw [if_neg (by have := HM.out; simp only; omega)])
  have HE : Hid (boundEr ⟨l, qu, lo⟩ q = 0) := Lib.hid (by unfold boundEr; rw [if_pos ⟨HMT.out, by omega, by omega⟩])
  clear h1 h2
  by_cases h3 : l = 0 ∨ lo = true ∨ b = true
  ·have HRa : Hid (boundM ⟨l, qu, lo⟩ q b = ⟨l, 0, false⟩) := Lib.hid (by rw [HR.out, if_pos h3])
   have e3 : (l == 0) = true ∨ (l == 0) = false /\ lo = true ∨ (l == 0) = false /\ lo = false /\ b = true := by
    by_cases a : l = 0
    ·simp [a]
    ·cases lo <;> cases b <;> simp_all
   clear h3 HR
   rcases e3 with e3 | ⟨e3, rfl⟩ | ⟨e3, rfl, rfl⟩
   ·have hkx := HKB.out
    obtain ⟨wz, hw_wz⟩ : ∃ wz, wz = put3 wb gb (.int .i64 l) (.int .i64 0) (.bool false) := ⟨_, rfl⟩
    have hk_wz := put3_at hkx (.int .i64 l) (.int .i64 0) (.bool false)
    have hg_wz := put3_grown wb gb (.int .i64 l) (.int .i64 0) (.bool false)
    rw [<- hw_wz] at hk_wz hg_wz
    unfold put3 at hw_wz
    have o_wz_0 := BlockIs.of hkx 0 _ rfl
    have o_wz_1 := BlockIs.of hkx 1 _ rfl
    have o_wz_2 := BlockIs.of hkx 2 _ rfl
    have f_wz := thaw hkx
    have e_wz_0 := BlockIs.of hk_wz 0 _ rfl
    have e_wz_1 := BlockIs.of hk_wz 1 _ rfl
    have e_wz_2 := BlockIs.of hk_wz 2 _ rfl
    have HBZ := Lib.hid (bput HB.out hg_wz HLT.out.1 (Nat.le_refl _))
    clear hkx hk_wz hg_wz
    go_wp2_with (first | (rw [<- hw_wz]; clear hw_wz) | fail)
    refine bodyPost_ret (v := .tuple #[.agg #[.int .i64 l, .int .i64 0, .bool false], .int .i64 0]) (by simp [results, Tryz.results66, go_sem, e_wz_0, e_wz_1, e_wz_2]) rfl ⟨by rw [HRa.out, HE.out], HBZ.out⟩
   ·have hkx := HKB.out
    obtain ⟨wz, hw_wz⟩ : ∃ wz, wz = put3 wb gb (.int .i64 l) (.int .i64 0) (.bool false) := ⟨_, rfl⟩
    have hk_wz := put3_at hkx (.int .i64 l) (.int .i64 0) (.bool false)
    have hg_wz := put3_grown wb gb (.int .i64 l) (.int .i64 0) (.bool false)
    rw [<- hw_wz] at hk_wz hg_wz
    unfold put3 at hw_wz
    have o_wz_0 := BlockIs.of hkx 0 _ rfl
    have o_wz_1 := BlockIs.of hkx 1 _ rfl
    have o_wz_2 := BlockIs.of hkx 2 _ rfl
    have f_wz := thaw hkx
    have e_wz_0 := BlockIs.of hk_wz 0 _ rfl
    have e_wz_1 := BlockIs.of hk_wz 1 _ rfl
    have e_wz_2 := BlockIs.of hk_wz 2 _ rfl
    have HBZ := Lib.hid (bput HB.out hg_wz HLT.out.1 (Nat.le_refl _))
    clear hkx hk_wz hg_wz
    go_wp2_with (first | (rw [<- hw_wz]; clear hw_wz) | fail)
    refine bodyPost_ret (v := .tuple #[.agg #[.int .i64 l, .int .i64 0, .bool false], .int .i64 0]) (by simp [results, Tryz.results66, go_sem, e_wz_0, e_wz_1, e_wz_2]) rfl ⟨by rw [HRa.out, HE.out], HBZ.out⟩
   ·have hkx := HKB.out
    obtain ⟨wz, hw_wz⟩ : ∃ wz, wz = put3 wb gb (.int .i64 l) (.int .i64 0) (.bool false) := ⟨_, rfl⟩
    have hk_wz := put3_at hkx (.int .i64 l) (.int .i64 0) (.bool false)
    have hg_wz := put3_grown wb gb (.int .i64 l) (.int .i64 0) (.bool false)
    rw [<- hw_wz] at hk_wz hg_wz
    unfold put3 at hw_wz
    have o_wz_0 := BlockIs.of hkx 0 _ rfl
    have o_wz_1 := BlockIs.of hkx 1 _ rfl
    have o_wz_2 := BlockIs.of hkx 2 _ rfl
    have f_wz := thaw hkx
    have e_wz_0 := BlockIs.of hk_wz 0 _ rfl
    have e_wz_1 := BlockIs.of hk_wz 1 _ rfl
    have e_wz_2 := BlockIs.of hk_wz 2 _ rfl
    have HBZ := Lib.hid (bput HB.out hg_wz HLT.out.1 (Nat.le_refl _))
    clear hkx hk_wz hg_wz
    go_wp2_with (first | (rw [<- hw_wz]; clear hw_wz) | fail)
    refine bodyPost_ret (v := .tuple #[.agg #[.int .i64 l, .int .i64 0, .bool false], .int .i64 0]) (by simp [results, Tryz.results66, go_sem, e_wz_0, e_wz_1, e_wz_2]) rfl ⟨by rw [HRa.out, HE.out], HBZ.out⟩
  ·have HRa : Hid (boundM ⟨l, qu, lo⟩ q b = if q <= qu + 1 then ⟨0, 0, false⟩ else ⟨1, qu + 1, false⟩) := Lib.hid (by rw [HR.out, if_neg h3])
   have e3 : (l == 0) = false := by simp; exact fun h => h3 (.inl h)
   obtain rfl : lo = false := by cases lo <;> simp_all
   obtain rfl : b = false := by cases b <;> simp_all
   have s1 : IntKind.i64.wrap (qu + 1) = qu + 1 := by rw [IntKind.wrap_i64]; have := HM.out; omega
   clear h3
   by_cases h4 : qu + 1 >= q
   ·have d4 : decide (qu + 1 >= q) = true := decide_eq_true h4
    have HRb : Hid (boundM ⟨l, qu, false⟩ q false = ⟨0, 0, false⟩) := Lib.hid (by rw [HRa.out, if_pos h4])
    clear h4
    go_wp2_with fail
    refine (modeNew_any _).mono ?_
    rintro e w1 ⟨rfl, hb1⟩
    have HB1 := Lib.hid (bthen HB.out hb1)
    have HKB1 := Lib.hid (keep_at HKB.out hb1)
    unfold modV
    simp only
    clear hb1
    have hkx := HKB1.out
    obtain ⟨wz, hw_wz⟩ : ∃ wz, wz = put3 w1 gb (.int .i64 0) (.int .i64 0) (.bool false) := ⟨_, rfl⟩
    have hk_wz := put3_at hkx (.int .i64 0) (.int .i64 0) (.bool false)
    have hg_wz := put3_grown w1 gb (.int .i64 0) (.int .i64 0) (.bool false)
    rw [<- hw_wz] at hk_wz hg_wz
    unfold put3 at hw_wz
    have o_wz_0 := BlockIs.of hkx 0 _ rfl
    have o_wz_1 := BlockIs.of hkx 1 _ rfl
    have o_wz_2 := BlockIs.of hkx 2 _ rfl
    have f_wz := thaw hkx
    have e_wz_0 := BlockIs.of hk_wz 0 _ rfl
    have e_wz_1 := BlockIs.of hk_wz 1 _ rfl
    have e_wz_2 := BlockIs.of hk_wz 2 _ rfl
    have HBZ := Lib.hid (bput HB1.out hg_wz HLT.out.1 (Nat.le_refl _))
    clear hkx hk_wz hg_wz
    go_wp2_with (first | (rw [<- hw_wz]; clear hw_wz) | fail)
    refine bodyPost_ret (v := .tuple #[.agg #[.int .i64 0, .int .i64 0, .bool false], .int .i64 0]) (by simp [results, Tryz.results66, go_sem, e_wz_0, e_wz_1, e_wz_2]) rfl ⟨by rw [HRb.out, HE.out], HBZ.out⟩
   ·have d4 : decide (qu + 1 >= q) = false := decide_eq_false h4
    have HRb : Hid (boundM ⟨l, qu, false⟩ q false = ⟨1, qu + 1, false⟩) := Lib.hid (by rw [HRa.out, if_neg h4])
    clear h4
    have hkx := HKB.out
    obtain ⟨wz, hw_wz⟩ : ∃ wz, wz = put3 wb gb (.int .i64 1) (.int .i64 (qu + 1)) (.bool false) := ⟨_, rfl⟩
    have hk_wz := put3_at hkx (.int .i64 1) (.int .i64 (qu + 1)) (.bool false)
    have hg_wz := put3_grown wb gb (.int .i64 1) (.int .i64 (qu + 1)) (.bool false)
    rw [<- hw_wz] at hk_wz hg_wz
    unfold put3 at hw_wz
    have o_wz_0 := BlockIs.of hkx 0 _ rfl
    have o_wz_1 := BlockIs.of hkx 1 _ rfl
    have o_wz_2 := BlockIs.of hkx 2 _ rfl
    have f_wz := thaw hkx
    have e_wz_0 := BlockIs.of hk_wz 0 _ rfl
    have e_wz_1 := BlockIs.of hk_wz 1 _ rfl
    have e_wz_2 := BlockIs.of hk_wz 2 _ rfl
    have HBZ := Lib.hid (bput HB.out hg_wz HLT.out.1 (Nat.le_refl _))
    clear hkx hk_wz hg_wz
    go_wp2_with (first | (rw [<- hw_wz]; clear hw_wz) | fail)
    refine bodyPost_ret (v := .tuple #[.agg #[.int .i64 1, .int .i64 (qu + 1), .bool false], .int .i64 0]) (by simp [results, Tryz.results66, go_sem, e_wz_0, e_wz_1, e_wz_2]) rfl ⟨by rw [HRb.out, HE.out], HBZ.out⟩
 ·have hm : modMay ⟨l, qu, lo⟩ = false := by simpa using hm
  rw [hm]
  have HR : Hid (boundM ⟨l, qu, lo⟩ q b = ⟨0, 0, false⟩) := Lib.hid (by unfold boundM; rw [if_pos (Or.inl (by intro h; simp [modMay, h] at hm))])
  have HE : Hid (boundEr ⟨l, qu, lo⟩ q = 1900) := Lib.hid (by unfold boundEr; rw [if_neg (by rw [hm]; simp)])
  clear hm
  have hkx := HKB.out
  obtain ⟨wz, hw_wz⟩ : ∃ wz, wz = put3 wb gb (.int .i64 0) (.int .i64 0) (.bool false) := ⟨_, rfl⟩
  have hk_wz := put3_at hkx (.int .i64 0) (.int .i64 0) (.bool false)
  have hg_wz := put3_grown wb gb (.int .i64 0) (.int .i64 0) (.bool false)
  rw [<- hw_wz] at hk_wz hg_wz
  unfold put3 at hw_wz
  have o_wz_0 := BlockIs.of hkx 0 _ rfl
  have o_wz_1 := BlockIs.of hkx 1 _ rfl
  have o_wz_2 := BlockIs.of hkx 2 _ rfl
  have f_wz := thaw hkx
  have e_wz_0 := BlockIs.of hk_wz 0 _ rfl
  have e_wz_1 := BlockIs.of hk_wz 1 _ rfl
  have e_wz_2 := BlockIs.of hk_wz 2 _ rfl
  have HBZ := Lib.hid (bput HB.out hg_wz HLT.out.1 (Nat.le_refl _))
  clear hkx hk_wz hg_wz
  go_wp2_with (first | (rw [<- hw_wz]; clear hw_wz) | fail)
  refine bodyPost_ret (v := .tuple #[.agg #[.int .i64 0, .int .i64 0, .bool false], .int .i64 1900]) (by simp [results, Tryz.results66, go_sem, e_wz_0, e_wz_1, e_wz_2]) rfl ⟨by rw [HR.out, HE.out], HBZ.out⟩
end Go.Proofs.YtooeeiiiflfckaaGreat
/- the kernel's own cells, its seats' cells: what is read, what is written. -/
namespace Go.Proofs.YtooeeiiiflfckaaGreat
open Go.RowKit
def setMode (W : World) (g : Nat) (m : Mod) : World := ((W.setCell ⟨g, 6, none⟩ (.int .i64 m.level)).setCell ⟨g, 7, none⟩ (.int .i64 m.quiet)).setCell ⟨g, 8, none⟩ (.bool m.loud)
theorem setMode_at {W : World} {Y : KLay} {K : KSt} (h : W.heap[Y.kb]? = some (.cells (kCells Y K).toArray 100 (0, 0))) (m : Mod) : (setMode W Y.kb m).heap[Y.kb]? = some (.cells (kCells Y { K with mode := m }).toArray 100 (0, 0)) := by
 have := blk_set (blk_set (blk_set h 6 (.int .i64 m.level)) 7 (.int .i64 m.quiet)) 8 (.bool m.loud)
 simpa [kCells, setMode, vi] using this
theorem setMode_grown (W : World) (g : Nat) (m : Mod) : W.grownBy (setMode W g m) (some g) := grown_trans (grown_trans (set_grown _ _ _ _) (set_grown _ _ _ _)) (set_grown _ _ _ _)
def setLed (W : World) (g : Nat) (l : Led) : World := (((W.setCell ⟨g, 2, none⟩ (.int .i64 l.idle)).setCell ⟨g, 3, none⟩ (.int .i64 l.dealt)).setCell ⟨g, 4, none⟩ (.int .i64 l.lost)).setCell ⟨g, 5, none⟩ (.int .i64 l.last)
theorem setLed_at {W : World} {Y : KLay} {K : KSt} (h : W.heap[Y.kb]? = some (.cells (kCells Y K).toArray 100 (0, 0))) (l : Led) : (setLed W Y.kb l).heap[Y.kb]? = some (.cells (kCells Y { K with led := l }).toArray 100 (0, 0)) := by
 have := blk_set (blk_set (blk_set (blk_set h 2 (.int .i64 l.idle)) 3 (.int .i64 l.dealt)) 4 (.int .i64 l.lost)) 5 (.int .i64 l.last)
 simpa [kCells, setLed, vi] using this
theorem setLed_grown (W : World) (g : Nat) (l : Led) : W.grownBy (setLed W g l) (some g) := grown_trans (grown_trans (grown_trans (set_grown _ _ _ _) (set_grown _ _ _ _)) (set_grown _ _ _ _)) (set_grown _ _ _ _)
theorem setNow_at {W : World} {Y : KLay} {K : KSt} (h : W.heap[Y.kb]? = some (.cells (kCells Y K).toArray 100 (0, 0))) (x : Int) : (W.setCell ⟨Y.kb, 0, none⟩ (.int .i64 x)).heap[Y.kb]? = some (.cells (kCells Y { K with now := x }).toArray 100 (0, 0)) := by
 have := blk_set h 0 (.int .i64 x)
 simpa [kCells, vi] using this
theorem KAt.setKern {W W' : World} {Y : KLay} {K K' : KSt} {G : Nat -> Prop} (h : KAt W Y K G) (hk : W.grownBy W' (some Y.kb)) (h1 : K'.cfg = K.cfg) (h2 : K'.seats = K.seats) (h3 : K'.ports = K.ports) (hl : W'.heap[Y.kb]? = some (.cells (kCells Y K').toArray 100 (0, 0))) :
  ∃ G', KAt W' Y K' G' /\ Moves G G' W W' := by
 obtain ⟨F, hI, rfl⟩ := h
 obtain ⟨G', k1, k2, -⟩ := hI.setKern hk h1 h2 h3 hl
 exact ⟨G', k1, k2⟩
theorem KAt.ringPtr {W : World} {Y : KLay} {K : KSt} {G : Nat -> Prop} (h : KAt W Y K G) {i : Nat} (hi : i < K.seats.length) : W.cell? ⟨Y.sb i, 21, none⟩ = some (.pointer (some ⟨Y.rb i, 0, none⟩)) := by
 have hs := h.seat hi
 refine BlockIs.of hs.1 21 _ ?_
 have hl := hs.2.2
 rw [List.getElem?_toArray]
 unfold sCells
 rw [List.getElem?_cons_succ, List.getElem?_cons_succ, List.getElem?_cons_succ, List.getElem?_cons_succ, List.getElem?_cons_succ, List.getElem?_append_right (by rw [List.length_map]; omega), List.length_map, hl]
 rfl
theorem KAt.locPtr {W : World} {Y : KLay} {K : KSt} {G : Nat -> Prop} (h : KAt W Y K G) {i : Nat} (hi : i < K.seats.length) : W.cell? ⟨Y.sb i, 0, none⟩ = some (.pointer (some ⟨Y.lb i, 0, none⟩)) := BlockIs.of (h.seat hi).1 0 _ rfl
theorem KAt.lvl {W : World} {Y : KLay} {K : KSt} {G : Nat -> Prop} (h : KAt W Y K G) {i : Nat} (hi : i < K.seats.length) : W.cell? ⟨Y.sb i, 1, none⟩ = some (.int .i64 (K.seat i).lvl) := BlockIs.of (h.seat hi).1 1 _ rfl
theorem KAt.codeC {W : World} {Y : KLay} {K : KSt} {G : Nat -> Prop} (h : KAt W Y K G) {i : Nat} (hi : i < K.seats.length) : W.cell? ⟨Y.sb i, 2, none⟩ = some (Y.cv i) := BlockIs.of (h.seat hi).1 2 _ rfl
theorem any_step {α : Type} (p : α -> Bool) (xs : List α) (k : Nat) (h : k < xs.length) : (xs.take (k + 1)).any p = ((xs.take k).any p || p xs[k]) := by
 rw [List.take_add_one, List.any_append, List.getElem?_eq_getElem h]
 simp
theorem seat_get (K : KSt) (i : Nat) (h : i < K.seats.length) : K.seat i = K.seats[i] := by
 unfold KSt.seat
 rw [List.getD_eq_getElem?_getD, List.getElem?_eq_getElem h]
 rfl
theorem turned_any (x : Int) (w : World) : Calls Tryz.prog 67 #[.int .i64 x] w fun e w' => e = .returned (evV (turnedE x)) /\ Below w.heap.size w w' := by
 obtain ⟨wa, ga, hw_wa, hg_ga, hb_wa, hk_ga, hs_wa⟩ := alloc_all w (.cells #[.int .i64 0, .int .i64 (-1), .int .i64 (-1), .int .i64 x] 45)
 have c0 := BlockIs.of hk_ga 0 (.int .i64 0) rfl
 have c1 := BlockIs.of hk_ga 1 (.int .i64 (-1)) rfl
 have c2 := BlockIs.of hk_ga 2 (.int .i64 (-1)) rfl
 have c3 := BlockIs.of hk_ga 3 (.int .i64 x) rfl
 have HB := Lib.hid hb_wa
 go_enter Tryz.func67, Tryz.ntmps67
 go_wp2_with fail
 rw [<- hw_wa]
 (try rw [<- hg_ga])
 refine bodyPost_ret (v := evV (turnedE x)) (by simp [results, Tryz.results67, go_sem, c0, c1, c2, c3, turnedE]) rfl ⟨rfl, by subst hg_ga; exact HB.out⟩
end Go.Proofs.YtooeeiiiflfckaaGreat
/- package kernel: boundary. -/
namespace Go.Proofs.YtooeeiiiflfckaaGreat
open Go.RowKit
def BnV (Y : KLay) (Ks : KSt) (bl : Bool) (mm : Mod) (er : Int) (a : Nat) (v : Value) : Prop := match a with
 | 0 => v = .pointer (some ⟨Y.kb, 0, none⟩)
 | 1 => v = .pointer (some ⟨Y.kb, 0, none⟩)
 | 2 => v = .pointer (some ⟨Y.kb, 0, none⟩)
 | 3 => v = .pointer (some ⟨Y.kb, 0, none⟩)
 | 4 => v = .pointer (some ⟨Y.kb, 6, none⟩)
 | 5 => v = .agg #[.int .i64 Ks.mode.level, .int .i64 Ks.mode.quiet, .bool Ks.mode.loud]
 | 6 => v = .pointer (some ⟨Y.kb, 0, none⟩)
 | 7 => v = .pointer (some ⟨Y.kb, 0, none⟩)
 | 8 => v = .pointer (some ⟨Y.kb, 9, none⟩)
 | 9 => v = .pointer (some ⟨Y.kb, 10, none⟩)
 | 10 => v = .int .i64 Ks.cfg.quiet
 | 11 => v = .bool bl
 | 12 => v = .tuple #[.agg #[.int .i64 mm.level, .int .i64 mm.quiet, .bool mm.loud], .int .i64 er]
 | 13 => v = .tuple #[.agg #[.int .i64 mm.level, .int .i64 mm.quiet, .bool mm.loud], .int .i64 er]
 | 14 => v = .agg #[.int .i64 mm.level, .int .i64 mm.quiet, .bool mm.loud]
 | 15 => v = .int .i64 er
 | 16 => v = .pointer (some ⟨Y.kb, 0, none⟩)
 | 17 => v = .pointer (some ⟨Y.kb, 0, none⟩)
 | 18 => v = .pointer (some ⟨Y.kb, 6, none⟩)
 | _ => True
theorem own_low {w : World} {b b' : Nat} {e : TypeId} {size n : Nat} {v : Value} {xs : List Value} (h : w.ownsRow b e size v n xs) (hb : b' <= b) : w.ownsRow b' e size v n xs := by
 refine ⟨h.1, ?_⟩
 rcases h.2 with h1 | ⟨g, cap, cur, h1, h2, h3⟩
 ·exact .inl h1
 ·exact .inr ⟨g, cap, cur, h1, Nat.le_trans hb h2, h3⟩
theorem KAt.cell {W : World} {Y : KLay} {K : KSt} {G : Nat -> Prop} (h : KAt W Y K G) (j : Nat) (v : Value) (hv : (kCells Y K)[j]? = some v) : W.cell? ⟨Y.kb, j, none⟩ = some v := BlockIs.of h.kern.1 j v (by simpa using hv)
set_option maxRecDepth 100000 in
set_option maxHeartbeats 8000000 in
theorem kbound_any (Y : KLay) (Ks : KSt) (G : Nat -> Prop) (m : Int) (w : World) (h : KAt w Y Ks G) (hk : KOk Ks m) :
  Calls Tryz.prog 42 #[.pointer (some ⟨Y.kb, 0, none⟩)] w fun e w' => ∃ a n c, e = .returned (.slice a n c) /\ ∃ G', KAt w' Y (boundK Ks).1 G' /\ Moves G G' w w' /\ EvRow w' w.heap.size (.slice a n c) (boundK Ks).2 /\ Off (.slice a n c) G' := by
 have HA := Lib.hid h
 have HK := Lib.hid hk
 have kb0 := h.cell 0 (.int .i64 Ks.now) rfl
 have kb1 := h.cell 1 (.int .i64 Ks.start) rfl
 have kb9 := h.cell 9 (.int .i64 Ks.cfg.frame) rfl
 have hfr := hk.frame
 have hnw := hk.now
 have s1 : Ks.now.tmod Ks.cfg.frame = Ks.now % Ks.cfg.frame := Int.tmod_eq_emod_of_nonneg hnw.1
 have hb0 : 0 <= Ks.now % Ks.cfg.frame /\ Ks.now % Ks.cfg.frame < Ks.cfg.frame := ⟨Int.emod_nonneg _ (by omega), Int.emod_lt_of_pos _ (by omega)⟩
 obtain ⟨r, hr⟩ : ∃ r, r = Ks.now % Ks.cfg.frame := ⟨_, rfl⟩
 rw [<- hr] at s1 hb0
 have s2 : IntKind.i64.wrap r = r := by rw [IntKind.wrap_i64]; omega
 have s3 : ¬ Ks.cfg.frame = 0 := by omega
 have s3b : (Ks.cfg.frame == 0) = false := by simpa using s3
 have HR := Lib.hid hr
 clear hr hb0 hfr hnw h hk
 go_enter Tryz.func42, Tryz.ntmps42
 by_cases hc : r ≠ 0 ∨ Ks.now = Ks.start
 ·have hs : boundK Ks = (Ks, []) := by unfold boundK; rw [<- HR.out, if_pos hc]
  have HS := Lib.hid hs
  rw [hs]
  have e0 : (r != 0) = true ∨ (r != 0) = false /\ (Ks.now == Ks.start) = true := by
   by_cases a : r = 0
   ·right; exact ⟨by simpa using a, by rcases hc with q | q; exact absurd a q; simpa using q⟩
   ·left; simpa using a
  clear hc hs
  rcases e0 with e0 | ⟨e0, e1⟩
  ·go_wp2_with fail
   go_quiet (fail)
   go_wp2_with fail
   go_ret
   exact ⟨none, 0, 0, rfl, G, HA.out.below (below_drewN (Below.refl _ _) _), Moves.of_below (below_drewN (Below.refl _ _) _), World.ownsRow_nil _ _ _ _, fun g hg => by cases hg⟩
  ·go_wp2_with fail
   go_quiet (fail)
   go_wp2_with fail
   go_ret
   exact ⟨none, 0, 0, rfl, G, HA.out.below (below_drewN (Below.refl _ _) _), Moves.of_below (below_drewN (Below.refl _ _) _), World.ownsRow_nil _ _ _ _, fun g hg => by cases hg⟩
 have e0 : (r != 0) = false := by simp only [not_or, Decidable.not_not] at hc; simpa using hc.1
 have e1 : (Ks.now == Ks.start) = false := by simp only [not_or, Decidable.not_not] at hc; simpa using hc.2
 have HC := Lib.hid hc
 clear hc
 go_wp2_with fail
 go_quiet (fail)
 obtain ⟨wq, hq_wq, hh_wq, hb_wq⟩ : ∃ wq : World, wq = w.drewN nq /\ wq.heap = w.heap /\ Below w.heap.size w wq := ⟨_, rfl, rfl, below_drewN (Below.refl _ _) _⟩
 rw [<- hq_wq]
 have HQ_wq := Lib.hid (And.intro hh_wq hb_wq)
 clear hq_wq hh_wq hb_wq
 have hA := HA.out.below HQ_wq.out.2
 have HAq := Lib.hid hA
 have kb14 := hA.cell 14 Y.sv rfl
 obtain ⟨sa, sc, hsv, hse⟩ := hA.seats
 have HSE := Lib.hid hse
 obtain ⟨n, hn⟩ : ∃ n, n = Ks.seats.length := ⟨_, rfl⟩
 rw [<- hn] at hsv
 have HN := Lib.hid hn
 have hn8 : n <= 1000 := by have := HK.out.seats8; omega
 rw [hsv] at kb14
 clear hA hse hn hsv kb0 kb1 kb9 s1 s2 s3 s3b e0 e1
 go_wp2_with fail
 go_loopw [3, 5, 40] (fun b _ i wr => ∃ k : Nat, k <= n /\ i = .int .i64 k /\ b = .bool ((Ks.seats.take k).any (fun s => decide (s.lvl = 1) && s.ready)) /\ wr = wq) (fun _ _ i _ => n - (intOf i).toNat)
 case atStart => exact ⟨0, by omega, rfl, rfl, rfl⟩
 case round =>
  obtain ⟨k, hkn, rfl, rfl, rfl⟩ := hrel
  by_cases hlt : k < n
  ·have hlt' : k < Ks.seats.length := by rw [<- HN.out]; exact hlt
   obtain ⟨sb, hsb, y0⟩ := HSE.out k hlt'
   subst hsb
   have y1 := HAq.out.lvl hlt'
   have y2 := HAq.out.locPtr hlt'
   unfold ptrV at y0
   have hst := any_step (fun s : SSt => decide (s.lvl = 1) && s.ready) Ks.seats k hlt'
   rw [<- seat_get Ks k hlt'] at hst
   have hlk : (k : Int) < (n : Int) := by omega
   obtain ⟨b, hb⟩ : ∃ b, b = (Ks.seats.take k).any (fun s => decide (s.lvl = 1) && s.ready) := ⟨_, rfl⟩
   rw [<- hb] at hst |-
   have HST := Lib.hid hst
   have HLT := Lib.hid hlt'
   clear hb hst hlt'
   cases b
   ·by_cases hl1 : (Ks.seat k).lvl = 1
    ·have d1 : ((Ks.seat k).lvl == 1) = true := by simpa using hl1
     have HL1 := Lib.hid hl1
     clear hl1
     go_wp2_with fail
     refine (k_ready Y Ks G k _ HAq.out HLT.out).mono ?_
     rintro e w' ⟨rfl, hww⟩
     subst w'
     go_wp2_with fail
     go_roundw
     case rel => exact ⟨k + 1, by omega, by go_num, by rw [HST.out, HL1.out]; simp, trivial⟩
     case measure => simp [intOf]; omega
    ·have d1 : ((Ks.seat k).lvl == 1) = false := by simpa using hl1
     have HL1 := Lib.hid hl1
     clear hl1
     go_wp2_with fail
     go_roundw
     case rel => exact ⟨k + 1, by omega, by go_num, by rw [HST.out]; simp [HL1.out], trivial⟩
     case measure => simp [intOf]; omega
   ·go_wp2_with fail
    go_roundw
    case rel => exact ⟨k + 1, by omega, by go_num, by rw [HST.out]; simp, trivial⟩
    case measure => simp [intOf]; omega
  ·obtain rfl : k = n := by omega
   have hall : (Ks.seats.take k).any (fun s => decide (s.lvl = 1) && s.ready) = Ks.seats.any (fun s => decide (s.lvl = 1) && s.ready) := by rw [HN.out, List.take_length]
   obtain ⟨bl, hbl⟩ : ∃ bl, bl = Ks.seats.any (fun s => decide (s.lvl = 1) && s.ready) := ⟨_, rfl⟩
   rw [hall, <- hbl]
   have HBL := Lib.hid hbl
   clear hall hbl
   have kb6 := HAq.out.cell 6 (.int .i64 Ks.mode.level) rfl
   have HKB := Lib.hid HAq.out.kern.1
   obtain ⟨mm, hmm⟩ : ∃ mm, mm = boundM Ks.mode Ks.cfg.quiet bl := ⟨_, rfl⟩
   obtain ⟨er, her⟩ : ∃ er, er = boundEr Ks.mode Ks.cfg.quiet := ⟨_, rfl⟩
   have HMM := Lib.hid hmm
   have HER := Lib.hid her
   clear hmm her
   go_wp2_with fail
   refine region_inv0 rfl (by kernel_rfl) (PInv (BnV Y Ks bl mm er) 19 (fun W => Below wr.heap.size wr W) (fun W => ∃ W1, Below wr.heap.size wr W1 /\ W1.grownBy W (some Y.kb) /\ W.heap[Y.kb]? = some (.cells (kCells Y { Ks with mode := mm }).toArray 100 (0, 0)))) (fun vs h0 => ⟨(fun i h => by cases h), (fun _ => below_drew (Below.refl _ _)), (fun h => by cases h)⟩) ?_ ?_
   ·simp (config := { maxSteps := 4000000 }) only [List.map, putAll, Act.put, InvE, List.setIfInBounds_toArray, List.set_cons_succ, List.set_cons_zero, Nat.reduceAdd]
    refine ⟨?_, ?_, ?_, ?_, ?_, ?_, ?_, ?_, ?_, ?_, ?_, ?_, ?_, ?_, ?_, ?_, ?_, ?_, ?_, ?_, trivial⟩
    all_goals
     intro L vs W hI hi hn hcl K hK
     rw [if_pos (by simp [Region.wanted])]
    ·have HK := Lib.hid (fun v h => hK v W ⟨pv_upd hI.pv h, hI.s0, hI.s1⟩)
     clear hK hI hn hcl hi
     go_simp
     exact HK.out _ rfl
    ·have HK := Lib.hid (fun v h => hK v W ⟨pv_upd hI.pv h, hI.s0, hI.s1⟩)
     clear hK hI hn hcl hi
     go_simp
     exact HK.out _ rfl
    ·have r1 : vs 1 = _ := hI.pv 1 (hn 1 rfl)
     simp only [r1] at hK |-
     have HK := Lib.hid (fun v h => hK v W ⟨pv_upd hI.pv h, hI.s0, hI.s1⟩)
     clear hK hI hn hcl hi
     go_simp
     exact HK.out _ rfl
    ·have r2 : vs 2 = _ := hI.pv 2 (hn 2 rfl)
     simp only [r2] at hK |-
     have HK := Lib.hid (fun v h => hK v W ⟨pv_upd hI.pv h, hI.s0, hI.s1⟩)
     clear hK hI hn hcl hi
     go_simp
     exact HK.out _ rfl
    ·have r3 : vs 3 = _ := hI.pv 3 (hn 3 rfl)
     simp only [r3] at hK |-
     have HK := Lib.hid (fun v h => hK v W ⟨pv_upd hI.pv h, hI.s0, hI.s1⟩)
     clear hK hI hn hcl hi
     go_simp
     exact HK.out _ rfl
    ·have r4 : vs 4 = _ := hI.pv 4 (hn 4 rfl)
     have hLn : L 19 = false := by
      cases h : L 19
      ·rfl
      ·exact absurd (hcl 12 _ rfl (hcl 13 _ rfl (hcl 14 _ rfl (hcl 19 _ rfl h 14 rfl) 13 rfl) 12 rfl) 5 rfl) (Bool.eq_false_iff.1 hi)
     have HS := Lib.hid (hI.s0 hLn)
     have kbb := keep_at HKB.out HS.out
     have b6 := BlockIs.of kbb 6 (.int .i64 Ks.mode.level) rfl
     have b7 := BlockIs.of kbb 7 (.int .i64 Ks.mode.quiet) rfl
     have b8 := BlockIs.of kbb 8 (.bool Ks.mode.loud) rfl
     clear kbb
     simp only [r4] at hK |-
     have HK := Lib.hid (fun v h => hK v W ⟨pv_upd hI.pv h, hI.s0, hI.s1⟩)
     clear hK hI hn hcl hi hLn
     go_simp
     exact HK.out _ rfl
    ·have HK := Lib.hid (fun v h => hK v W ⟨pv_upd hI.pv h, hI.s0, hI.s1⟩)
     clear hK hI hn hcl hi
     go_simp
     exact HK.out _ rfl
    ·have r6 : vs 6 = _ := hI.pv 6 (hn 6 rfl)
     simp only [r6] at hK |-
     have HK := Lib.hid (fun v h => hK v W ⟨pv_upd hI.pv h, hI.s0, hI.s1⟩)
     clear hK hI hn hcl hi
     go_simp
     exact HK.out _ rfl
    ·have r7 : vs 7 = _ := hI.pv 7 (hn 7 rfl)
     simp only [r7] at hK |-
     have HK := Lib.hid (fun v h => hK v W ⟨pv_upd hI.pv h, hI.s0, hI.s1⟩)
     clear hK hI hn hcl hi
     go_simp
     exact HK.out _ rfl
    ·have r8 : vs 8 = _ := hI.pv 8 (hn 8 rfl)
     simp only [r8] at hK |-
     have HK := Lib.hid (fun v h => hK v W ⟨pv_upd hI.pv h, hI.s0, hI.s1⟩)
     clear hK hI hn hcl hi
     go_simp
     exact HK.out _ rfl
    ·have r9 : vs 9 = _ := hI.pv 9 (hn 9 rfl)
     have hLn : L 19 = false := by
      cases h : L 19
      ·rfl
      ·exact absurd (hcl 12 _ rfl (hcl 13 _ rfl (hcl 14 _ rfl (hcl 19 _ rfl h 14 rfl) 13 rfl) 12 rfl) 10 rfl) (Bool.eq_false_iff.1 hi)
     have HS := Lib.hid (hI.s0 hLn)
     have kbb := keep_at HKB.out HS.out
     have b10 := BlockIs.of kbb 10 (.int .i64 Ks.cfg.quiet) rfl
     clear kbb
     simp only [r9] at hK |-
     have HK := Lib.hid (fun v h => hK v W ⟨pv_upd hI.pv h, hI.s0, hI.s1⟩)
     clear hK hI hn hcl hi hLn
     go_simp
     exact HK.out _ rfl
    ·have HK := Lib.hid (fun v h => hK v W ⟨pv_upd hI.pv h, hI.s0, hI.s1⟩)
     clear hK hI hn hcl hi
     go_simp
     exact HK.out _ rfl
    ·have r5 : vs 5 = _ := hI.pv 5 (hn 5 rfl)
     have r10 : vs 10 = _ := hI.pv 10 (hn 10 rfl)
     have r11 : vs 11 = _ := hI.pv 11 (hn 11 rfl)
     have hLn : L 19 = false := by
      cases h : L 19
      ·rfl
      ·exact absurd (hcl 13 _ rfl (hcl 14 _ rfl (hcl 19 _ rfl h 14 rfl) 13 rfl) 12 rfl) (Bool.eq_false_iff.1 hi)
     have HS := Lib.hid (hI.s0 hLn)
     simp only [r5, r10, r11] at hK |-
     have HK := Lib.hid hK
     have HP := Lib.hid hI.pv
     have HLn := Lib.hid hLn
     clear hK hI hn hcl hi hLn
     go_simp
     refine (boundary_any Ks.mode Ks.cfg.quiet bl W).mono ?_
     rw [<- HMM.out, <- HER.out]
     rintro e w5 ⟨rfl, hb5⟩
     exact HK.out _ w5 ⟨pv_upd HP.out rfl, fun _ => HS.out.trans (hb5.mono HS.out.size), fun h => by simp [updB, HLn.out] at h⟩
    ·have r12 : vs 12 = _ := hI.pv 12 (hn 12 rfl)
     simp only [r12] at hK |-
     have HK := Lib.hid (fun v h => hK v W ⟨pv_upd hI.pv h, hI.s0, hI.s1⟩)
     clear hK hI hn hcl hi
     go_simp
     exact HK.out _ rfl
    ·have r13 : vs 13 = _ := hI.pv 13 (hn 13 rfl)
     simp only [r13] at hK |-
     have HK := Lib.hid (fun v h => hK v W ⟨pv_upd hI.pv h, hI.s0, hI.s1⟩)
     clear hK hI hn hcl hi
     go_simp
     exact HK.out _ rfl
    ·have r13 : vs 13 = _ := hI.pv 13 (hn 13 rfl)
     simp only [r13] at hK |-
     have HK := Lib.hid (fun v h => hK v W ⟨pv_upd hI.pv h, hI.s0, hI.s1⟩)
     clear hK hI hn hcl hi
     go_simp
     exact HK.out _ rfl
    ·have r0 : vs 0 = _ := hI.pv 0 (hn 0 rfl)
     simp only [r0] at hK |-
     have HK := Lib.hid (fun v h => hK v W ⟨pv_upd hI.pv h, hI.s0, hI.s1⟩)
     clear hK hI hn hcl hi
     go_simp
     exact HK.out _ rfl
    ·have r16 : vs 16 = _ := hI.pv 16 (hn 16 rfl)
     simp only [r16] at hK |-
     have HK := Lib.hid (fun v h => hK v W ⟨pv_upd hI.pv h, hI.s0, hI.s1⟩)
     clear hK hI hn hcl hi
     go_simp
     exact HK.out _ rfl
    ·have r17 : vs 17 = _ := hI.pv 17 (hn 17 rfl)
     simp only [r17] at hK |-
     have HK := Lib.hid (fun v h => hK v W ⟨pv_upd hI.pv h, hI.s0, hI.s1⟩)
     clear hK hI hn hcl hi
     go_simp
     exact HK.out _ rfl
    ·have r18 : vs 18 = _ := hI.pv 18 (hn 18 rfl)
     have r14 : vs 14 = _ := hI.pv 14 (hn 14 rfl)
     simp only [r18, r14] at hK |-
     have hs := hI.s0 hi
     have kbb := keep_at HKB.out hs
     have o6 := BlockIs.of kbb 6 (.int .i64 Ks.mode.level) rfl
     have o7 := BlockIs.of kbb 7 (.int .i64 Ks.mode.quiet) rfl
     have o8 := BlockIs.of kbb 8 (.bool Ks.mode.loud) rfl
     have fz := thaw kbb
     have h1 := setMode_at kbb mm
     have h2 := setMode_grown W Y.kb mm
     obtain ⟨wz, hw_wz⟩ : ∃ wz, wz = setMode W Y.kb mm := ⟨_, rfl⟩
     rw [<- hw_wz] at h1 h2
     unfold setMode at hw_wz
     have HN := Lib.hid (show PInv (BnV Y Ks bl mm er) 19 (fun W => Below wr.heap.size wr W) (fun W => ∃ W1, Below wr.heap.size wr W1 /\ W1.grownBy W (some Y.kb) /\ W.heap[Y.kb]? = some (.cells (kCells Y { Ks with mode := mm }).toArray 100 (0, 0))) (updB L 19) (upd vs 19 undef) wz from ⟨pv_upd hI.pv trivial, fun h => by simp [updB] at h, fun _ => ⟨W, hs, h2, h1⟩⟩)
     have HK := Lib.hid hK
     clear hK hI hn hcl hi hs kbb h1 h2
     go_simp
     rw [<- hw_wz]
     exact HK.out _ _ HN.out
   ·intro vs W hI
    simp only [List.map, putAll, Act.put, List.setIfInBounds_toArray, List.set_cons_succ, List.set_cons_zero, Nat.reduceAdd]
    have hs1 := hI.s1 (by simp)
    have r0 : vs 0 = _ := hI.pv 0 (by simp)
    have r1 : vs 1 = _ := hI.pv 1 (by simp)
    have r2 : vs 2 = _ := hI.pv 2 (by simp)
    have r3 : vs 3 = _ := hI.pv 3 (by simp)
    have r4 : vs 4 = _ := hI.pv 4 (by simp)
    have r5 : vs 5 = _ := hI.pv 5 (by simp)
    have r6 : vs 6 = _ := hI.pv 6 (by simp)
    have r7 : vs 7 = _ := hI.pv 7 (by simp)
    have r8 : vs 8 = _ := hI.pv 8 (by simp)
    have r9 : vs 9 = _ := hI.pv 9 (by simp)
    have r10 : vs 10 = _ := hI.pv 10 (by simp)
    have r11 : vs 11 = _ := hI.pv 11 (by simp)
    have r12 : vs 12 = _ := hI.pv 12 (by simp)
    have r13 : vs 13 = _ := hI.pv 13 (by simp)
    have r14 : vs 14 = _ := hI.pv 14 (by simp)
    have r15 : vs 15 = _ := hI.pv 15 (by simp)
    have r16 : vs 16 = _ := hI.pv 16 (by simp)
    have r17 : vs 17 = _ := hI.pv 17 (by simp)
    have r18 : vs 18 = _ := hI.pv 18 (by simp)
    simp only [r0, r1, r2, r3, r4, r5, r6, r7, r8, r9, r10, r11, r12, r13, r14, r15, r16, r17, r18]
    clear hI r0 r1 r2 r3 r4 r5 r6 r7 r8 r9 r10 r11 r12 r13 r14 r15 r16 r17 r18
    obtain ⟨W1, b1, b2, b3⟩ := hs1
    obtain ⟨G1, g1, g2⟩ := (HAq.out.below b1).setKern (K' := { Ks with mode := mm }) b2 rfl rfl rfl b3
    have hmv : Moves G G1 w W := (Moves.of_below HQ_wq.out.2).trans ((Moves.of_below b1).trans g2)
    have hbk : boundK Ks = ({ Ks with mode := mm }, if mm.level = Ks.mode.level then [] else [turnedE mm.level]) := by
     unfold boundK
     rw [<- HR.out, if_neg HC.out, HMM.out, HBL.out]
    have kb6 := g1.cell 6 (.int .i64 mm.level) rfl
    have HA2 := Lib.hid g1
    have HMV := Lib.hid hmv
    have HBK := Lib.hid hbk
    clear b1 b2 b3 g1 g2 hmv hbk kb14
    by_cases hl : mm.level = Ks.mode.level
    ·have d1 : (mm.level == Ks.mode.level) = true := by simpa using hl
     have HE := Lib.hid (HBK.out.trans (by rw [if_pos hl]))
     clear hl
     go_wp2_with fail
     go_ret
     exact ⟨none, 0, 0, rfl, G1, by rw [HE.out]; exact HA2.out, HMV.out, by rw [HE.out]; exact World.ownsRow_nil _ _ _ _, fun g hg => by cases hg⟩
    ·have d1 : (mm.level == Ks.mode.level) = false := by simpa using hl
     have HE := Lib.hid (HBK.out.trans (by rw [if_neg hl]))
     clear hl
     go_wp2_with fail
     refine (turned_any mm.level _).mono ?_
     rintro e w5 ⟨rfl, hb5⟩
     have HM5 := Lib.hid (HMV.out.trans (Moves.of_below hb5))
     have HA5 := Lib.hid (HA2.out.below hb5)
     clear hb5
     rw [show evV (turnedE mm.level) = .agg #[.int .i64 0, .int .i64 (-1), .int .i64 (-1), .int .i64 mm.level] from rfl]
     have ho : EvRow (w5.alloc (.cells #[.int .i64 0, .int .i64 (-1), .int .i64 (-1), .int .i64 mm.level] 45)) w5.heap.size (.slice (some ⟨w5.heap.size, 0, none⟩) 1 1) [turnedE mm.level] := own_one w5 45 4 [.int .i64 0, .int .i64 (-1), .int .i64 (-1), .int .i64 mm.level] rfl
     obtain ⟨w6, g6, hw_w6, hg_g6, hb_w6, hk_g6, hs_w6⟩ := alloc_all w5 (.cells #[.int .i64 0, .int .i64 (-1), .int .i64 (-1), .int .i64 mm.level] 45)
     rw [<- hw_w6, <- hg_g6] at ho
     have HO := Lib.hid ho
     have HB6 := Lib.hid hb_w6
     have HG6 := Lib.hid hg_g6
     clear ho hk_g6 hs_w6
     go_wp2_with fail
     rw [<- hw_w6]
     (try rw [<- hg_g6])
     go_ret
     refine ⟨_, _, _, rfl, G1, by rw [HE.out]; exact HA5.out.below HB6.out, HM5.out.trans (Moves.of_below HB6.out), by rw [HE.out]; exact own_low HO.out (by have := HM5.out.size; have := HG6.out; omega), ?_⟩
     intro g hg hG
     have hg2 : g6 = g := by simpa [Value.ownBlock] using hg
     have q1 := HA5.out.lt hG
     have q2 := HG6.out
     omega
end Go.Proofs.YtooeeiiiflfckaaGreat
/- package kernel: deal. -/
namespace Go.Proofs.YtooeeiiiflfckaaGreat
open Go.RowKit
def pendTo (Ks : KSt) (k : Nat) : List Int := ((List.range k).filter (fun i => decide ((Ks.seat i).lvl = 0) && (Ks.seat i).ready)).map (fun i : Nat => (i : Int))
theorem pendTo_step (Ks : KSt) (k : Nat) : pendTo Ks (k + 1) = if (decide ((Ks.seat k).lvl = 0) && (Ks.seat k).ready) = true then pendTo Ks k ++ [(k : Int)] else pendTo Ks k := by
 unfold pendTo
 rw [List.range_succ, List.filter_append, List.map_append]
 by_cases h : (decide ((Ks.seat k).lvl = 0) && (Ks.seat k).ready) = true
 ·rw [if_pos h]
  simp [List.filter_cons, h]
 ·rw [if_neg h]
  simp only [Bool.not_eq_true] at h
  simp [List.filter_cons, h]
theorem pendTo_len (Ks : KSt) (k : Nat) : (pendTo Ks k).length <= k := by
 unfold pendTo
 rw [List.length_map]
 have := List.length_filter_le (fun i => decide ((Ks.seat i).lvl = 0) && (Ks.seat i).ready) (List.range k)
 rwa [List.length_range] at this
set_option maxRecDepth 100000 in
set_option maxHeartbeats 8000000 in
theorem kdeal_any (Y : KLay) (Ks : KSt) (G : Nat -> Prop) (m : Int) (w : World) (h : KAt w Y Ks G) (hk : KOk Ks m) (high : Bool) :
  Calls Tryz.prog 75 #[.pointer (some ⟨Y.kb, 0, none⟩), .bool high] w fun e w' => e = .returned (.int .i64 (dealL Ks.led high (pendingK Ks)).2) /\ ∃ G', KAt w' Y { Ks with led := (dealL Ks.led high (pendingK Ks)).1 } G' /\ Moves G G' w w' := by
 have HA := Lib.hid h
 have kb14 := h.cell 14 Y.sv rfl
 obtain ⟨sa, sc, hsv, hse⟩ := h.seats
 have HSE := Lib.hid hse
 obtain ⟨n, hn⟩ : ∃ n, n = Ks.seats.length := ⟨_, rfl⟩
 rw [<- hn] at hsv
 have HN := Lib.hid hn
 have hn8 : n <= 8 := by have := hk.seats8; omega
 rw [hsv] at kb14
 clear h hk hse hn hsv
 go_enter Tryz.func75, Tryz.ntmps75
 go_wp2_with fail
 go_loopw [5, 6, 7, 16] (fun r _ _ i wr => ∃ k : Nat, k <= n /\ i = .int .i64 k /\ Hid (IntRow wr w.heap.size r (pendTo Ks k)) /\ Hid (Below w.heap.size w wr)) (fun _ _ _ i _ => n - (intOf i).toNat)
 case atStart => exact ⟨0, by omega, rfl, Lib.hid (World.ownsRow_nil _ _ _ _), Lib.hid (Below.refl _ _)⟩
 case round =>
  obtain ⟨k, hkn, rfl, HR, HB⟩ := hrel
  by_cases hlt : k < n
  ·have hlt' : k < Ks.seats.length := by rw [<- HN.out]; exact hlt
   have hA := HA.out.below HB.out
   obtain ⟨sb, hsb, y0⟩ := HSE.out k hlt'
   subst hsb
   replace y0 := Ext.below HB.out _ _ y0
   have y1 := hA.lvl hlt'
   have y2 := hA.locPtr hlt'
   unfold ptrV at y0
   have HAk := Lib.hid hA
   have hlk : (k : Int) < (n : Int) := by omega
   have HST := Lib.hid (pendTo_step Ks k)
   have hgl := pendTo_len Ks k
   have HLT := Lib.hid hlt'
   clear hA hlt'
   by_cases hl1 : (Ks.seat k).lvl = 0
   ·have d1 : ((Ks.seat k).lvl == 0) = true := by simpa using hl1
    have HL1 := Lib.hid hl1
    clear hl1
    go_wp2_with fail
    refine (k_ready Y Ks G k _ HAk.out HLT.out).mono ?_
    rintro e w' ⟨rfl, hww⟩
    subst w'
    obtain ⟨b, hb⟩ : ∃ b, b = (Ks.seat k).ready := ⟨_, rfl⟩
    rw [<- hb]
    have HBb := Lib.hid hb
    clear hb
    cases b
    ·have HS2 := Lib.hid (show pendTo Ks (k + 1) = pendTo Ks k by rw [HST.out, if_neg (by rw [<- HBb.out]; simp)])
     go_wp2_with fail
     go_roundw
     case rel => exact ⟨k + 1, by omega, by go_num, Lib.hid (by rw [HS2.out]; exact HR.out), HB⟩
     case measure => simp [intOf]; omega
    ·have HS2 := Lib.hid (show pendTo Ks (k + 1) = pendTo Ks k ++ [(k : Int)] by rw [HST.out, if_pos (by rw [<- HBb.out, HL1.out]; simp)])
     go_wp2_with (at_builtin; refine append_elem rfl (.tmp 33) (.tmp 35) 75 rfl w.heap.size 3 _ 1 8 Tryz.underlying75 infoInt rfl (by decide) u5 _ _ rfl HR.out (intCell (k : Int)) _ rfl rfl rfl rfl (by omega) (by omega) HB.out.size ?_)
     intro v2 w4 hown hbel hg
     have HN4 := Lib.hid (show IntRow w4 w.heap.size v2 (pendTo Ks (k + 1)) by rw [HS2.out]; exact IntRow.snoc rfl hown)
     have HB4 := Lib.hid (HB.out.trans hbel)
     obtain ⟨va, vc, rfl⟩ := own_shape hown
     clear hown hbel hg
     go_wp2_with fail
     go_roundw
     case rel => exact ⟨k + 1, by omega, by go_num, HN4, HB4⟩
     case measure => simp [intOf]; omega
   ·have d1 : ((Ks.seat k).lvl == 0) = false := by simpa using hl1
    have HS2 := Lib.hid (show pendTo Ks (k + 1) = pendTo Ks k by rw [HST.out, if_neg (by simp [hl1])])
    clear hl1
    go_wp2_with fail
    go_roundw
    case rel => exact ⟨k + 1, by omega, by go_num, Lib.hid (by rw [HS2.out]; exact HR.out), HB⟩
    case measure => simp [intOf]; omega
  ·obtain rfl : k = n := by omega
   have hpk : pendTo Ks k = pendingK Ks := by unfold pendTo pendingK; rw [HN.out]
   rw [hpk] at HR
   have hgl : (pendingK Ks).length <= 8 := by rw [<- hpk]; exact Nat.le_trans (pendTo_len Ks k) hn8
   have hA := HA.out.below HB.out
   have kb2 := hA.cell 2 (.int .i64 Ks.led.idle) rfl
   have kb3 := hA.cell 3 (.int .i64 Ks.led.dealt) rfl
   have kb4 := hA.cell 4 (.int .i64 Ks.led.lost) rfl
   have kb5 := hA.cell 5 (.int .i64 Ks.led.last) rfl
   have HI := Lib.hid (IntRow.ints HR.out (by omega))
   have HAk := Lib.hid hA
   obtain ⟨va, vc, rfl⟩ := own_shape HR.out
   clear hpk hgl hA
   go_wp2_with fail
   refine (deal_any Ks.led high _ (pendingK Ks) _ HI.out).mono ?_
   rintro e w5 ⟨er, rfl, hb5⟩
   have HA5 := Lib.hid (HAk.out.below hb5)
   have HM5 := Lib.hid (Moves.of_below (G := G) (HB.out.trans (hb5.mono HB.out.size)))
   obtain ⟨R, hR⟩ : ∃ R, R = dealL Ks.led high (pendingK Ks) := ⟨_, rfl⟩
   rw [<- hR]
   have HRR := Lib.hid hR
   clear hR
   obtain ⟨⟨q0, q1, q2, q3⟩, wh⟩ := R
   unfold ledV
   simp only
   obtain ⟨w6, g6, hw_w6, hg_g6, hb_w6, hk_g6, hs_w6⟩ := alloc_all w5 (.cells #[.int .i64 q0, .int .i64 q1, .int .i64 q2, .int .i64 q3] 63)
   have hA6 := HA5.out.below hb_w6
   have l0 := BlockIs.of hk_g6 0 (.int .i64 q0) rfl
   have l1 := BlockIs.of hk_g6 1 (.int .i64 q1) rfl
   have l2 := BlockIs.of hk_g6 2 (.int .i64 q2) rfl
   have l3 := BlockIs.of hk_g6 3 (.int .i64 q3) rfl
   have o2 := hA6.cell 2 (.int .i64 Ks.led.idle) rfl
   have o3 := hA6.cell 3 (.int .i64 Ks.led.dealt) rfl
   have o4 := hA6.cell 4 (.int .i64 Ks.led.lost) rfl
   have o5 := hA6.cell 5 (.int .i64 Ks.led.last) rfl
   have fz := thaw hA6.kern.1
   obtain ⟨wz, hw_wz⟩ : ∃ wz, wz = setLed w6 Y.kb ⟨q0, q1, q2, q3⟩ := ⟨_, rfl⟩
   have h1 := setLed_at hA6.kern.1 ⟨q0, q1, q2, q3⟩
   have h2 := setLed_grown w6 Y.kb ⟨q0, q1, q2, q3⟩
   rw [<- hw_wz] at h1 h2
   unfold setLed at hw_wz
   simp only at hw_wz
   obtain ⟨G', g1, g2⟩ := hA6.setKern (K' := { Ks with led := ⟨q0, q1, q2, q3⟩ }) h2 rfl rfl rfl h1
   have HG1 := Lib.hid g1
   have HMZ := Lib.hid ((HM5.out.trans (Moves.of_below hb_w6)).trans g2)
   clear hA6 h1 h2 g1 g2 hb_w6 hk_g6 hb5 kb2 kb3 kb4 kb5
   go_upto_region 9 with (fail)
   rw [<- hw_w6]
   (try rw [<- hg_g6])
   clear hw_w6 hg_g6 hs_w6
   go_wp2_with (first | (rw [<- hw_wz]; clear hw_wz) | fail)
   go_ret
   exact ⟨by rw [<- HRR.out]; rfl, G', by rw [<- HRR.out]; exact HG1.out, HMZ.out⟩
end Go.Proofs.YtooeeiiiflfckaaGreat
/- package kernel: owner. -/
namespace Go.Proofs.YtooeeiiiflfckaaGreat
open Go.RowKit
set_option maxRecDepth 100000 in
set_option maxHeartbeats 400000 in
theorem owner9_any (g : Nat) (wv : Value) (ws : List Window) (t : Int) (w : World) (h3 : w.cell? ⟨g, 12, none⟩ = some wv) (hw : WindowsV w wv ws) :
  Calls Tryz.prog 74 #[.pointer (some ⟨g, 9, none⟩), .int .i64 t] w fun e w' => e = .returned (.int .i64 (ownerAt t ws)) /\ Below w.heap.size w w' := by
 obtain ⟨a, c, rfl, hv1, hv2, hv3, hv4⟩ := hw
 have HV := Lib.hid hv4
 clear hv4
 have hl1 : ws.length <= 1000000000000000 := by omega
 go_enter Tryz.func74, Tryz.ntmps74
 go_wp2_with fail
 go_loopw [6, 12] (fun _ i wr => ∃ (k : Nat), k <= ws.length /\ i = .int .i64 k /\ Hid (ownerAt t ws = ownerAt t (ws.drop k)) /\ Below w.heap.size w wr) (fun _ i _ => ws.length - (intOf i).toNat)
 case atStart => exact ⟨0, by omega, rfl, Lib.hid (by simp), Below.refl _ _⟩
 case round =>
  obtain ⟨k, hk, rfl, HD, hB⟩ := hrel
  have HB := Lib.hid hB
  clear hB h3
  by_cases hlt : k < ws.length
  ·obtain ⟨b, off, rfl, hcell⟩ := HV.out (by intro h; rw [h] at hlt; simp at hlt)
   obtain ⟨y0, y1, y2⟩ := WindowAt.ext (Ext.below HB.out) (hcell k hlt)
   unfold IntAt at y0 y1 y2
   clear hcell
   have hstep := ownerAt_step t ws k hlt
   rw [<- HD.out] at hstep
   have HS := Lib.hid hstep
   clear hstep HD
   go_wp2_with fail
   all_goals first
    | (go_ret
       exact ⟨ret_int (by rw [HS.out, if_pos (by omega)]), bthen HB.out (balloc _ _)⟩)
    | (go_roundw
       case rel => exact ⟨k + 1, by omega, by go_num, Lib.hid (by rw [HS.out, if_neg (by omega)]), bthen HB.out (balloc _ _)⟩
       case measure => simp [intOf]; omega)
  ·have hfin : ownerAt t ws = -1 := by
    rw [HD.out, List.drop_of_length_le (by omega)]; rfl
   have HF := Lib.hid hfin
   clear hfin HD
   go_wp2_with fail
   go_ret
   exact ⟨ret_int HF.out.symm, HB.out⟩
theorem ownerAt_lt {c : Config} (h : checkCfg c = 0) (t : Int) : ownerAt t c.windows < c.parts.length := by
 have hw := (check_ok h).2.2.2.2.2.2.2
 have ha := winsFrom_all _ _ _ _ hw
 have hp := (check_ok h).2.2.2.2.1
 revert ha
 generalize c.windows = ws
 intro ha
 induction ws with
 | nil => show (-1 : Int) < _; omega
 | cons x r ih =>
  unfold ownerAt
  split
  ·exact (ha x (by simp)).2.2.2.2
  ·exact ih (fun y hy => ha y (List.mem_cons_of_mem _ hy))
set_option maxRecDepth 100000 in
set_option maxHeartbeats 8000000 in
theorem kowner_any (Y : KLay) (Ks : KSt) (G : Nat -> Prop) (m : Int) (w : World) (h : KAt w Y Ks G) (hk : KOk Ks m) :
  Calls Tryz.prog 45 #[.pointer (some ⟨Y.kb, 0, none⟩)] w fun e w' => e = .returned (.tuple #[.int .i64 (ownerK Ks).2.1, .bool (ownerK Ks).2.2]) /\ ∃ G', KAt w' Y (ownerK Ks).1 G' /\ Moves G G' w w' := by
 have HA := Lib.hid h
 have HK := Lib.hid hk
 have kb0 := h.cell 0 (.int .i64 Ks.now) rfl
 have kb9 := h.cell 9 (.int .i64 Ks.cfg.frame) rfl
 have kb12 := h.cell 12 Y.wv rfl
 have hfr := hk.frame
 have hnw := hk.now
 have s1 : Ks.now.tmod Ks.cfg.frame = Ks.now % Ks.cfg.frame := Int.tmod_eq_emod_of_nonneg hnw.1
 have hb0 : 0 <= Ks.now % Ks.cfg.frame /\ Ks.now % Ks.cfg.frame < Ks.cfg.frame := ⟨Int.emod_nonneg _ (by omega), Int.emod_lt_of_pos _ (by omega)⟩
 obtain ⟨r, hr⟩ : ∃ r, r = Ks.now % Ks.cfg.frame := ⟨_, rfl⟩
 rw [<- hr] at s1 hb0
 have s2 : IntKind.i64.wrap r = r := by rw [IntKind.wrap_i64]; omega
 have s3 : ¬ Ks.cfg.frame = 0 := by omega
 have s3b : (Ks.cfg.frame == 0) = false := by simpa using s3
 have HR := Lib.hid hr
 have HWV := Lib.hid h.conf.1.windows
 clear hr hb0 hfr hnw h hk
 go_enter Tryz.func45, Tryz.ntmps45
 go_wp2_with fail
 refine region_tail 15 (by kernel_rfl) (by kernel_rfl) ?_
 intro wy hy hby
 have z0 := (cell_of_heap hy _).trans kb0
 have z9 := (cell_of_heap hy _).trans kb9
 have z12 := (cell_of_heap hy _).trans kb12
 have HAy := Lib.hid (HA.out.below hby)
 have HBy := Lib.hid hby
 have HWy := Lib.hid (HWV.out.ext (Ext.below hby))
 clear hy hby kb0 kb9 kb12
 simp only [List.take_succ_cons, List.take_zero, List.drop_succ_cons, List.drop_zero]
 repeat still_step
 refine wpStill_nil ?_
 go_wp2_with fail
 refine (owner9_any _ Y.wv Ks.cfg.windows r _ z12 HWy.out).mono ?_
 rintro e w1 ⟨rfl, hb1⟩
 have hA := HAy.out.below hb1
 have HM := Lib.hid (Moves.of_below (G := G) (HBy.out.trans (hb1.mono HBy.out.size)))
 have HO : Hid (ownerK Ks = if ownerAt r Ks.cfg.windows < 0 ∨ (Ks.seat (ownerAt r Ks.cfg.windows).toNat).lvl = 0 /\ Ks.mode.level = 1 then (Ks, -1, false) else if (Ks.seat (ownerAt r Ks.cfg.windows).toNat).ready = true then (Ks, ownerAt r Ks.cfg.windows, false) else ({ Ks with led := (dealL Ks.led (decide ((Ks.seat (ownerAt r Ks.cfg.windows).toNat).lvl = 1)) (pendingK Ks)).1 }, (dealL Ks.led (decide ((Ks.seat (ownerAt r Ks.cfg.windows).toNat).lvl = 1)) (pendingK Ks)).2, decide (0 <= (dealL Ks.led (decide ((Ks.seat (ownerAt r Ks.cfg.windows).toNat).lvl = 1)) (pendingK Ks)).2))) := Lib.hid (by rw [HR.out]; rfl)
 have hlt := ownerAt_lt HK.out.cfg r
 rw [<- HK.out.len] at hlt
 obtain ⟨o, ho⟩ : ∃ o, o = ownerAt r Ks.cfg.windows := ⟨_, rfl⟩
 rw [<- ho] at HO hlt |-
 have kb14 := hA.cell 14 Y.sv rfl
 have kb6 := hA.cell 6 (.int .i64 Ks.mode.level) rfl
 obtain ⟨sa, sc, hsv, hse⟩ := hA.seats
 have HSE := Lib.hid hse
 obtain ⟨n, hn⟩ : ∃ n, n = Ks.seats.length := ⟨_, rfl⟩
 rw [<- hn] at hsv hlt
 have HN := Lib.hid hn
 have hn8 : n <= 1000 := by have := HK.out.seats8; omega
 rw [hsv] at kb14
 have HA1 := Lib.hid hA
 clear hA hse hn hsv hb1 ho z0 z9 z12 s1 s2 s3 s3b
 by_cases h0 : o < 0
 ·have d0 : decide (o < 0) = true := decide_eq_true h0
  have HE := Lib.hid (HO.out.trans (by rw [if_pos (Or.inl h0)]))
  clear h0 hlt
  go_wp2_with fail
  go_ret2
  exact ⟨by rw [HE.out]; rfl, G, by rw [HE.out]; exact HA1.out, HM.out⟩
 have d0 : decide (o < 0) = false := decide_eq_false h0
 obtain ⟨j, rfl⟩ : ∃ j : Nat, o = j := ⟨o.toNat, by omega⟩
 have hjn : j < n := by omega
 have hlt' : j < Ks.seats.length := by rw [<- HN.out]; exact hjn
 rw [Int.toNat_natCast] at HO
 obtain ⟨sb, hsb, y0⟩ := HSE.out j hlt'
 subst hsb
 have y1 := HA1.out.lvl hlt'
 have y2 := HA1.out.locPtr hlt'
 unfold ptrV at y0
 have HLT := Lib.hid hlt'
 have HO2 : Hid (ownerK Ks = if (Ks.seat j).lvl = 0 /\ Ks.mode.level = 1 then (Ks, -1, false) else if (Ks.seat j).ready = true then (Ks, (j : Int), false) else ({ Ks with led := (dealL Ks.led (decide ((Ks.seat j).lvl = 1)) (pendingK Ks)).1 }, (dealL Ks.led (decide ((Ks.seat j).lvl = 1)) (pendingK Ks)).2, decide (0 <= (dealL Ks.led (decide ((Ks.seat j).lvl = 1)) (pendingK Ks)).2))) := Lib.hid (by
  rw [HO.out]
  by_cases q : (Ks.seat j).lvl = 0 /\ Ks.mode.level = 1
  ·rw [if_pos (Or.inr q), if_pos q]
  ·rw [if_neg (by rintro (q2 | q2); exact h0 q2; exact q q2), if_neg q])
 clear HO h0 hlt'
 obtain ⟨lv, hlv⟩ : ∃ lv, lv = (Ks.seat j).lvl := ⟨_, rfl⟩
 rw [<- hlv] at y1 HO2
 clear hlv
 by_cases hb : lv = 0 /\ Ks.mode.level = 1
 ·have e1 : (lv == 0) = true := by simpa using hb.1
  have e2 : (Ks.mode.level == 1) = true := by simpa using hb.2
  have HE := Lib.hid (HO2.out.trans (by rw [if_pos hb]))
  clear hb
  go_wp2_with fail
  go_ret2
  exact ⟨by rw [HE.out]; rfl, G, by rw [HE.out]; exact HA1.out, HM.out⟩
 have HO3 := Lib.hid (HO2.out.trans (by rw [if_neg hb]))
 have e3 : (lv == 0) = false ∨ (lv == 0) = true /\ (Ks.mode.level == 1) = false := by
  by_cases q : lv = 0
  ·right; exact ⟨by simpa using q, by simp; exact fun q2 => hb ⟨q, q2⟩⟩
  ·left; simpa using q
 clear hb HO2
 obtain ⟨b, hbr⟩ : ∃ b, b = (Ks.seat j).ready := ⟨_, rfl⟩
 have HBR := Lib.hid hbr
 clear hbr
 rcases e3 with e3 | ⟨e3, e4⟩
 ·go_wp2_with fail
  refine (k_ready Y Ks G j _ HA1.out HLT.out).mono ?_
  rw [<- HBR.out]
  rintro e w' ⟨rfl, hww⟩
  subst w'
  cases b
  ·have HE := Lib.hid (HO3.out.trans (by rw [<- HBR.out, if_neg (by simp)]))
   obtain ⟨hi, hhi⟩ : ∃ hi, hi = decide (lv = 1) := ⟨_, rfl⟩
   have e5 : (lv == 1) = hi := by rw [hhi]; by_cases q : lv = 1 <;> simp [q]
   rw [<- hhi] at HE
   clear hhi
   go_wp2_with fail
   refine (kdeal_any Y Ks G m _ HA1.out HK.out hi).mono ?_
   rintro e w2 ⟨rfl, G', g1, g2⟩
   have HG1 := Lib.hid g1
   have HM2 := Lib.hid (HM.out.trans g2)
   obtain ⟨wh, hwh⟩ : ∃ wh, wh = (dealL Ks.led hi (pendingK Ks)).2 := ⟨_, rfl⟩
   rw [<- hwh] at HE |-
   clear g1 g2 hwh
   go_wp2_with fail
   go_ret2
   exact ⟨by rw [HE.out]; first | rfl | simp, G', by rw [HE.out]; exact HG1.out, HM2.out⟩
  ·have HE := Lib.hid (HO3.out.trans (by rw [<- HBR.out, if_pos rfl]))
   go_wp2_with fail
   go_ret2
   exact ⟨by rw [HE.out]; rfl, G, by rw [HE.out]; exact HA1.out, HM.out⟩
 ·go_wp2_with fail
  refine (k_ready Y Ks G j _ HA1.out HLT.out).mono ?_
  rw [<- HBR.out]
  rintro e w' ⟨rfl, hww⟩
  subst w'
  cases b
  ·have HE := Lib.hid (HO3.out.trans (by rw [<- HBR.out, if_neg (by simp)]))
   obtain ⟨hi, hhi⟩ : ∃ hi, hi = decide (lv = 1) := ⟨_, rfl⟩
   have e5 : (lv == 1) = hi := by rw [hhi]; by_cases q : lv = 1 <;> simp [q]
   rw [<- hhi] at HE
   clear hhi
   go_wp2_with fail
   refine (kdeal_any Y Ks G m _ HA1.out HK.out hi).mono ?_
   rintro e w2 ⟨rfl, G', g1, g2⟩
   have HG1 := Lib.hid g1
   have HM2 := Lib.hid (HM.out.trans g2)
   obtain ⟨wh, hwh⟩ : ∃ wh, wh = (dealL Ks.led hi (pendingK Ks)).2 := ⟨_, rfl⟩
   rw [<- hwh] at HE |-
   clear g1 g2 hwh
   go_wp2_with fail
   go_ret2
   exact ⟨by rw [HE.out]; first | rfl | simp, G', by rw [HE.out]; exact HG1.out, HM2.out⟩
  ·have HE := Lib.hid (HO3.out.trans (by rw [<- HBR.out, if_pos rfl]))
   go_wp2_with fail
   go_ret2
   exact ⟨by rw [HE.out]; rfl, G, by rw [HE.out]; exact HA1.out, HM.out⟩
end Go.Proofs.YtooeeiiiflfckaaGreat
/- package kernel, plainly: a whole tick: what it keeps. -/
namespace Go.Proofs.YtooeeiiiflfckaaGreat
open Go.RowKit
theorem turnOf_lt {n last : Int} {ps : List Int} (hn : 1 <= n) (h : ∀ p ∈ ps, p < n) : turnOf last ps < n := by
 unfold turnOf
 cases hf : ps.find? (fun p => decide (last < p)) with
 | some x => exact h x (List.mem_of_find?_eq_some hf)
 | none =>
  cases ps with
  | nil => show (-1 : Int) < n; omega
  | cons x r => exact h x (by simp)
theorem dealL_lt {n : Int} (l : Led) (hi : Bool) {ps : List Int} (hn : 1 <= n) (h : ∀ p ∈ ps, p < n) : (dealL l hi ps).2 < n := by
 have := turnOf_lt (last := l.last) hn h
 unfold dealL
 split
 ·show (0 : Int) < n; omega
 ·simp only
  repeat' split
  all_goals exact this
theorem pendingK_lt (K : KSt) : ∀ p ∈ pendingK K, 0 <= p /\ p < K.seats.length := by
 intro p hp
 unfold pendingK at hp
 obtain ⟨i, hi, rfl⟩ := List.mem_map.1 hp
 have := (List.mem_filter.1 hi).1
 have := List.mem_range.1 this
 omega
theorem ownerK_same (K : KSt) : (ownerK K).1.seats = K.seats /\ (ownerK K).1.cfg = K.cfg /\ (ownerK K).1.now = K.now /\ (ownerK K).1.start = K.start /\ (ownerK K).1.mode = K.mode /\ (ownerK K).1.ports = K.ports := by
 unfold ownerK
 simp only
 repeat' split
 all_goals exact ⟨rfl, rfl, rfl, rfl, rfl, rfl⟩
theorem ownerK_lt {K : KSt} {m : Int} (h : KOk K m) : (ownerK K).2.1 < K.seats.length := by
 have h8 := h.seats8
 have h1 := ownerAt_lt h.cfg (K.now % K.cfg.frame)
 rw [<- h.len] at h1
 unfold ownerK
 simp only
 split
 ·show (-1 : Int) < _; omega
 ·split
  ·exact h1
  ·exact dealL_lt _ _ (by omega) (fun p hp => (pendingK_lt K p hp).2)
theorem boundK_same (K : KSt) : (boundK K).1.seats = K.seats /\ (boundK K).1.cfg = K.cfg /\ (boundK K).1.now = K.now /\ (boundK K).1.start = K.start /\ (boundK K).1.led = K.led /\ (boundK K).1.ports = K.ports := by
 unfold boundK
 split <;> exact ⟨rfl, rfl, rfl, rfl, rfl, rfl⟩
structure SameK (K K' : KSt) : Prop where
 len : K'.seats.length = K.seats.length
 cfg : K'.cfg = K.cfg
 now : K'.now = K.now
 start : K'.start = K.start
theorem SameK.refl (K : KSt) : SameK K K := ⟨rfl, rfl, rfl, rfl⟩
theorem SameK.trans {a b c : KSt} (h : SameK a b) (k : SameK b c) : SameK a c := ⟨k.len.trans h.len, k.cfg.trans h.cfg, k.now.trans h.now, k.start.trans h.start⟩
theorem SameK.set (K : KSt) (i : Nat) (s : SSt) : SameK K (K.setSeat i s) := ⟨seats_set _ _ _, rfl, rfl, rfl⟩
theorem enterK_same (K : KSt) (e : Entry) : SameK K (enterK K e).1 /\ (enterK K e).1.mode = K.mode /\ (enterK K e).1.led = K.led /\ (enterK K e).1.ports = K.ports := by
 unfold enterK
 split
 ·exact ⟨SameK.refl K, rfl, rfl, rfl⟩
 ·simp only
  split <;> exact ⟨SameK.set _ _ _, rfl, rfl, rfl⟩
theorem entersK_same (es : List Entry) : ∀ (K : KSt), SameK K (entersK K es).1 /\ (entersK K es).1.mode = K.mode /\ (entersK K es).1.led = K.led /\ (entersK K es).1.ports = K.ports := by
 induction es with
 | nil => intro K; exact ⟨SameK.refl K, rfl, rfl, rfl⟩
 | cons e r ih =>
  intro K
  obtain ⟨a1, a2, a3, a4⟩ := enterK_same K e
  obtain ⟨b1, b2, b3, b4⟩ := ih (enterK K e).1
  exact ⟨a1.trans b1, b2.trans a2, b3.trans a3, b4.trans a4⟩
theorem beginsK_same (K : KSt) : ∀ k, SameK K (beginsK K k).1 /\ (beginsK K k).1.mode = K.mode /\ (beginsK K k).1.led = K.led /\ (beginsK K k).1.ports = K.ports
 | 0 => ⟨SameK.refl K, rfl, rfl, rfl⟩
 | k + 1 => by
  obtain ⟨a1, a2, a3, a4⟩ := beginsK_same K k
  exact ⟨a1.trans (SameK.set _ _ _), a2, a3, a4⟩
theorem chargeK_same (K : KSt) (i : Nat) : SameK K (chargeK K i).1 /\ (chargeK K i).1.led = K.led /\ (chargeK K i).1.ports = K.ports := by
 unfold chargeK
 simp only
 split <;> exact ⟨⟨seats_set _ _ _, rfl, rfl, rfl⟩, rfl, rfl⟩
theorem outsideK_same (K : KSt) (i : Nat) (f : Eff) : SameK K (outsideK K i f).1 /\ (outsideK K i f).1.led = K.led /\ (outsideK K i f).1.mode = K.mode := by
 unfold outsideK
 simp only
 repeat' split
 all_goals first | exact ⟨SameK.refl _, rfl, rfl⟩ | exact ⟨⟨seats_set _ _ _, rfl, rfl, rfl⟩, rfl, rfl⟩ | exact ⟨⟨rfl, rfl, rfl, rfl⟩, rfl, rfl⟩
theorem stepK_same (K : KSt) (i : Nat) : SameK K (stepK K i).1 /\ (stepK K i).1.led = K.led := by
 unfold stepK
 simp only
 split
 ·exact ⟨(SameK.set _ _ _).trans (SameK.set _ _ _), rfl⟩
 ·have h1 := outsideK_same (K.setSeat i { K.seat i with vm := (stepV (K.seat i).code (K.seat i).vm ((K.seat i).inp.headD 0) (outsS K.ports i) (getsS K.ports i)).1 }) i (stepV (K.seat i).code (K.seat i).vm ((K.seat i).inp.headD 0) (outsS K.ports i) (getsS K.ports i)).2.1
  have h2 := chargeK_same (outsideK (K.setSeat i { K.seat i with vm := (stepV (K.seat i).code (K.seat i).vm ((K.seat i).inp.headD 0) (outsS K.ports i) (getsS K.ports i)).1 }) i (stepV (K.seat i).code (K.seat i).vm ((K.seat i).inp.headD 0) (outsS K.ports i) (getsS K.ports i)).2.1).1 i
  exact ⟨((SameK.set _ _ _).trans h1.1).trans h2.1, h2.2.1.trans h1.2.1⟩
theorem tickE_zero {K : KSt} {es : List Entry} (h : tickE K es = 0) : K.now ≠ 1099511627776 /\ es.length <= 512 := by
 unfold tickE at h
 split at h
 ·cases h
 ·split at h
  ·cases h
  ·exact ⟨by assumption, by omega⟩
theorem tickK_go {K : KSt} {es : List Entry} (h : tickE K es = 0) : ∃ A B O D, A = entersK (boundK K).1 es /\ B = beginsK A.1 A.1.seats.length /\ O = ownerK B.1 /\ D = (if 0 <= O.2.1 then stepK O.1 O.2.1.toNat else (O.1, [])) /\
  tickK K es = ({ D.1 with now := K.now + 1 }, ⟨K.now, O.2.1, O.2.2, D.1.mode.level, (boundK K).2 ++ A.2 ++ B.2 ++ D.2⟩) := by
 refine ⟨_, _, _, _, rfl, rfl, rfl, rfl, ?_⟩
 unfold tickK
 rw [if_neg (by rw [h]; simp)]
theorem tickK_no {K : KSt} {es : List Entry} (h : tickE K es ≠ 0) : tickK K es = (K, ⟨0, 0, false, 0, []⟩) := by
 unfold tickK
 rw [if_pos h]
theorem tickK_same {K : KSt} {es : List Entry} (h : tickE K es = 0) : (tickK K es).1.seats.length = K.seats.length /\ (tickK K es).1.cfg = K.cfg /\ (tickK K es).1.now = K.now + 1 /\ (tickK K es).1.start = K.start /\ (tickK K es).2.tick = K.now := by
 obtain ⟨A, B, O, D, hA, hB, hO, hD, hT⟩ := tickK_go h
 have h0 := boundK_same K
 have h1 := (entersK_same es (boundK K).1).1
 have h2 := (beginsK_same A.1 A.1.seats.length).1
 have h3 := ownerK_same B.1
 rw [<- hA] at h1
 rw [<- hB] at h2
 rw [<- hO] at h3
 have h4 : SameK O.1 D.1 := by
  rw [hD]
  split
  ·exact (stepK_same _ _).1
  ·exact SameK.refl _
 have h5 : SameK K D.1 := ⟨by rw [h4.len, h3.1, h2.len, h1.len, h0.1], by rw [h4.cfg, h3.2.1, h2.cfg, h1.cfg, h0.2.1], by rw [h4.now, h3.2.2.1, h2.now, h1.now, h0.2.2.1], by rw [h4.start, h3.2.2.2.1, h2.start, h1.start, h0.2.2.2.1]⟩
 rw [hT]
 exact ⟨h5.len, h5.cfg, rfl, h5.start, rfl⟩
theorem tickK_ok {K : KSt} {m : Int} (h : KOk K m) (es : List Entry) : KOk (tickK K es).1 (m + 48) := by
 by_cases he : tickE K es = 0
 ·obtain ⟨A, B, O, D, hA, hB, hO, hD, hT⟩ := tickK_go he
  have hs := tickK_same he
  have h1 := entersK_ok es (boundK_ok h)
  rw [<- hA] at h1
  have h2 := beginsK_ok h1 A.1.seats.length (Nat.le_refl _)
  have h8 := h1.seats8
  rw [<- hB] at h2
  have h3 := ownerK_ok h2
  have hl := ownerK_lt h2
  have hss := (ownerK_same B.1).1
  rw [<- hO] at h3 hl hss
  have h4 : KOk D.1 (m + 6 * A.1.seats.length) := by
   rw [hD]
   split
   ·exact stepK_ok h3 _ (by rw [hss]; omega)
   ·exact h3
  have hn := (tickE_zero he).1
  have hk := h.now
  rw [hT]
  refine ⟨h4.cfg, h4.len, fun i hi => (h4.loc i hi).mono (by omega), h4.pts, ?_⟩
  unfold clockB
  simp only [decide_eq_true_eq]
  omega
 ·rw [tickK_no he]
  exact h.mono (by omega)
end Go.Proofs.YtooeeiiiflfckaaGreat
/- A drawn region with one call whose answer is told only by what holds of it. -/
namespace Go.Proofs.YtooeeiiiflfckaaGreat
open Go.RowKit
structure QInv (PV : Nat -> Value -> Prop) (n : Nat) (S0 : World -> Prop) (S1 : Value -> World -> Prop) (js : List Nat) (D : Nat -> Value -> Value -> Prop) (L : Nat -> Bool) (vs : Nat -> Value) (W : World) : Prop where
 pv : ∀ i, L i = true -> PV i (vs i)
 s0 : L n = false -> S0 W
 s1 : L n = true -> S1 (vs n) W
 dv : ∀ j, j ∈ js -> L j = true -> L n = true /\ D j (vs n) (vs j)
variable {PV : Nat -> Value -> Prop} {n : Nat} {S0 : World -> Prop} {S1 : Value -> World -> Prop} {js : List Nat} {D : Nat -> Value -> Value -> Prop} {L : Nat -> Bool} {vs : Nat -> Value} {W : World}
theorem uB_ne {L : Nat -> Bool} {i k : Nat} (h : k ≠ i) : updB L i k = L k := by unfold updB; rw [if_neg h]
theorem uB_eq {L : Nat -> Bool} {i : Nat} : updB L i i = true := by unfold updB; rw [if_pos rfl]
theorem uV_ne {vs : Nat -> Value} {i k : Nat} {v : Value} (h : k ≠ i) : upd vs i v k = vs k := by unfold upd; rw [if_neg h]
theorem uV_eq {vs : Nat -> Value} {i : Nat} {v : Value} : upd vs i v i = v := by unfold upd; rw [if_pos rfl]
theorem QInv.plain (hI : QInv PV n S0 S1 js D L vs W) {i : Nat} {v : Value} (h1 : n ≠ i) (h2 : i ∉ js) (hv : PV i v) : QInv PV n S0 S1 js D (updB L i) (upd vs i v) W := by
 refine ⟨pv_upd hI.pv hv, ?_, ?_, fun j hj => ?_⟩
 ·rw [uB_ne h1]; exact hI.s0
 ·rw [uB_ne h1, uV_ne h1]; exact hI.s1
 ·have hne : j ≠ i := fun e => h2 (e ▸ hj)
  rw [uB_ne hne, uB_ne h1, uV_ne h1, uV_ne hne]
  exact hI.dv j hj
theorem QInv.dep (hI : QInv PV n S0 S1 js D L vs W) {i : Nat} {v : Value} (h1 : n ≠ i) (hp : PV i v) (hL : L n = true) (hv : D i (vs n) v) : QInv PV n S0 S1 js D (updB L i) (upd vs i v) W := by
 refine ⟨pv_upd hI.pv hp, ?_, ?_, fun j hj => ?_⟩
 ·rw [uB_ne h1]; exact hI.s0
 ·rw [uB_ne h1, uV_ne h1]; exact hI.s1
 ·by_cases e : j = i
  ·subst e
   rw [uB_ne h1, uV_ne h1, uV_eq]
   exact fun _ => ⟨hL, hv⟩
  ·rw [uB_ne e, uB_ne h1, uV_ne h1, uV_ne e]
   exact hI.dv j hj
theorem QInv.call (hI : QInv PV n S0 S1 js D L vs W) (hi : L n = false) {v : Value} {W2 : World} (hp : PV n v) (hn : n ∉ js) (h : S1 v W2) : QInv PV n S0 S1 js D (updB L n) (upd vs n v) W2 := by
 refine ⟨pv_upd hI.pv hp, fun q => ?_, fun _ => ?_, fun j hj hL => ?_⟩
 ·rw [uB_eq] at q; cases q
 ·rw [uV_eq]; exact h
 ·have hne : j ≠ n := fun e => hn (e ▸ hj)
  rw [uB_ne hne] at hL
  have := (hI.dv j hj hL).1
  rw [hi] at this
  cases this
end Go.Proofs.YtooeeiiiflfckaaGreat
/- A drawn region by what each step yields and by what is told of the world and of what was yielded. -/
namespace Go.Proofs.YtooeeiiiflfckaaGreat
open Go.RowKit
structure WInv2 (PV : Nat -> Value -> Prop) (S : (Nat -> Bool) -> (Nat -> Value) -> World -> Prop) (L : Nat -> Bool) (vs : Nat -> Value) (W : World) : Prop where
 pv : ∀ i, L i = true -> PV i (vs i)
 st : S L vs W
end Go.Proofs.YtooeeiiiflfckaaGreat
/- 'append(s, xs...)' onto a row of the call's own: also where the row now stands. -/
namespace Go.Proofs.YtooeeiiiflfckaaGreat
open Go.RowKit
section
variable {P : Program}
theorem run_onto_at (w : World) (base : Nat) (t ty e : TypeId) (z : Value) (size bytes : Nat) (ht : P.underlying t = some (.slice e)) (hinfo : (P.info? e).map (fun i => (i.zero, i.size, i.bytes)) = some (some z, size, bytes)) (hzs : z.cells.size = size) (hsz : 0 < size)
  (v : Value) (n : Nat) (xs : List Value) (hown : w.ownsRow base e size v n xs) (x : Value) (m : Nat) (news : List Value) (hx : Src w x m news) (hl : news.length = m * size) (h1 : ∀ u ∈ news, u.oneCell' = true)
  (h63 : n + m <= maxLen) (hbytes : (n + m) * bytes <= 140737488355328) (hbase : base <= w.heap.size) :
  ∃ v' w', (Builtin.append_ #[t, t] ty #[v, x]).run P w = .ok v' w' /\ w'.ownsRow base e size v' (n + m) (xs ++ news) /\ w.grownBy w' v.ownBlock /\ (v'.ownBlock = v.ownBlock ∨ v'.ownBlock = some w.heap.size) := by
 obtain ⟨i, hi, hz, hsize, hby⟩ := info_parts hinfo
 rcases hx with ⟨c, rfl, rfl, rfl⟩ | ⟨ad, c, rfl, hc⟩
 ·refine ⟨v, w, ?_, by simpa using hown, World.grownBy.refl w _, .inl rfl⟩
  rcases hown.2 with ⟨rfl, rfl⟩ | ⟨g, cap, cur, rfl, _, _, hnc, _⟩
  ·simp [Builtin.append_, run_underlying ht, sizeOf, typeInfo, hi, Builtin.lenOf, Builtin.firstCells]
  ·simp [Builtin.append_, run_underlying ht, sizeOf, typeInfo, hi, Builtin.lenOf, Builtin.firstCells, hnc, storeCells]
 ·obtain ⟨v', w', hrun, h2, h3, _, h5⟩ := run_append_own_at (P := P) w base t ty e i z size bytes ht hi hz hsize hby hzs hsz v n xs hown ad m c news hl hc h1 h63 hbytes hbase
  exact ⟨v', w', hrun, h2, h3, h5⟩
theorem wp_onto_at {w : World} {o : Oper} {a : Act} {K : Act -> World -> Prop} {Q : Exit -> Act -> World -> Prop} (s x : Operand) (t : TypeId)
  (ho : o.op = .call { callee := .builtin .append, args := #[s, x], argTypes := #[t, t] })
  (base : Nat) (e : TypeId) (z : Value) (size bytes : Nat) (ht : P.underlying t = some (.slice e)) (hinfo : (P.info? e).map (fun i => (i.zero, i.size, i.bytes)) = some (some z, size, bytes)) (hzs : z.cells.size = size) (hsz : 0 < size)
  (v : Value) (n : Nat) (xs : List Value) (hs : a.eval s = v) (hown : w.ownsRow base e size v n xs) (y : Value) (hy : a.eval x = y) (m : Nat) (news : List Value) (hx : Src w y m news) (hl : news.length = m * size) (h1 : ∀ u ∈ news, u.oneCell' = true)
  (h63 : n + m <= maxLen) (hbytes : (n + m) * bytes <= 140737488355328) (hbase : base <= w.heap.size)
  (h : ∀ v' w', w'.ownsRow base e size v' (n + m) (xs ++ news) -> w.grownBy w' v.ownBlock -> (v'.ownBlock = v.ownBlock ∨ v'.ownBlock = some w.heap.size) -> K (a.put o.dst v') w') : o.wp P a w K Q := by
 obtain ⟨v', w', hrun, h2, h3, h5⟩ := run_onto_at (P := P) w base t o.type e z size bytes ht hinfo hzs hsz v n xs hown y m news hx hl h1 h63 hbytes hbase
 unfold Oper.wp execOp
 simp only [ho, resolve, invoke, builtin, Sem.run_bind, Sem.run_pure, Result.andThen_ok, List.map_toArray, List.map_cons, List.map_nil, hs, hy, hrun]
 exact h _ _ h2 h3 h5
theorem wpList_onto_at {w : World} {ops : Array Oper} {rest : List Oper} {o : Oper} {a : Act} {Q : Exit -> Act -> World -> Prop} (hgd : o.guard = none) (s x : Operand) (t : TypeId)
  (ho : o.op = .call { callee := .builtin .append, args := #[s, x], argTypes := #[t, t] })
  (base : Nat) (e : TypeId) (z : Value) (size bytes : Nat) (ht : P.underlying t = some (.slice e)) (hinfo : (P.info? e).map (fun i => (i.zero, i.size, i.bytes)) = some (some z, size, bytes)) (hzs : z.cells.size = size) (hsz : 0 < size)
  (v : Value) (n : Nat) (xs : List Value) (hs : a.eval s = v) (hown : w.ownsRow base e size v n xs) (y : Value) (hy : a.eval x = y) (m : Nat) (news : List Value) (hx : Src w y m news) (hl : news.length = m * size) (h1 : ∀ u ∈ news, u.oneCell' = true)
  (h63 : n + m <= maxLen) (hbytes : (n + m) * bytes <= 140737488355328) (hbase : base <= w.heap.size)
  (h : ∀ v' w', w'.ownsRow base e size v' (n + m) (xs ++ news) -> w.grownBy w' v.ownBlock -> (v'.ownBlock = v.ownBlock ∨ v'.ownBlock = some w.heap.size) -> wpList P ops Q rest (a.put o.dst v') w') : wpList P ops Q (o :: rest) a w := by
 refine wpList_plain hgd fun K hK => ?_
 obtain ⟨v', w', hrun, h2, h3, h5⟩ := run_onto_at (P := P) w base t o.type e z size bytes ht hinfo hzs hsz v n xs hown y m news hx hl h1 h63 hbytes hbase
 unfold Oper.wp execOp
 simp only [ho, resolve, invoke, builtin, Sem.run_bind, Sem.run_pure, Result.andThen_ok, List.map_toArray, List.map_cons, List.map_nil, hs, hy, hrun]
 exact hK _ _ (h v' w' h2 h3 h5)
end
theorem own_src {w : World} {b : Nat} {e : TypeId} {size n : Nat} {v : Value} {xs : List Value} (h : w.ownsRow b e size v n xs) : Src w v n xs := by
 rcases h.2 with ⟨h1, h2⟩ | ⟨g, cap, cur, h1, h2⟩
 ·subst h2
  exact .inl ⟨0, h1, rfl, List.length_eq_zero_iff.1 (by have := h.1; omega)⟩
 ·exact .inr ⟨⟨g, 0, none⟩, cap, h1, fun j u hu => h.cells (g := g) (by rw [h1]; rfl) j u hu⟩
end Go.Proofs.YtooeeiiiflfckaaGreat
