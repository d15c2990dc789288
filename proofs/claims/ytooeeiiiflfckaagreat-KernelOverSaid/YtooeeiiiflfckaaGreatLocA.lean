/- Several texts of this claim as one. -/
import Derived.Test.YtooeeiiiflfckaaGreatTskA
import Derived.Test.YtooeeiiiflfckaaGreatPutA
import Derived.Test.YtooeeiiiflfckaaGreatEvA
import Derived.Test.YtooeeiiiflfckaaGreatLibA
/- package jobs: a part's schedule, how it lies in memory (LocAt), what its methods do to it. -/
set_option linter.unusedVariables false
set_option linter.unusedSimpArgs false
namespace Go.Proofs.YtooeeiiiflfckaaGreat
open Go.RowKit
structure TRun where
 t : Task
 s : Turns
 seq : Int
structure LSt where
 idx : Int
 lvl : Int
 rs : List TRun
 js : List Job
theorem cell_blk {W W' : World} {a : Addr} (h : W'.heap[a.block]? = W.heap[a.block]?) : W'.cell? a = W.cell? a := by
 unfold World.cell?
 rw [h]
theorem SliceAt.far {α : Type} {AT : World -> Nat -> Nat -> α -> Prop} {size bytes : Nat} (hAT : ∀ W W' b o x, W'.heap[b]? = W.heap[b]? -> AT W b o x -> AT W' b o x) {W W' : World} {v : Value} {xs : List α} (h : SliceAt AT size bytes W v xs) (hs : ∀ a n cap, v = .slice (some a) n cap -> W'.heap[a.block]? = W.heap[a.block]?) : SliceAt AT size bytes W' v xs := by
 obtain ⟨a, cap, rfl, h1, h2, h3, h4⟩ := h
 refine ⟨a, cap, rfl, h1, h2, h3, fun hne => ?_⟩
 obtain ⟨b, off, rfl, hc⟩ := h4 hne
 exact ⟨b, off, rfl, fun k hk => hAT _ _ _ _ _ (hs _ _ _ rfl) (hc k hk)⟩
theorem IntAt.far {W W' : World} {b o : Nat} {x : Int} (h : W'.heap[b]? = W.heap[b]?) (hx : IntAt W b o x) : IntAt W' b o x := (cell_blk (a := ⟨b, o, none⟩) h).trans hx
theorem JobAt.far {W W' : World} {b o : Nat} {x : Job} (h : W'.heap[b]? = W.heap[b]?) (hx : JobAt W b o x) : JobAt W' b o x := ⟨hx.1.far h, hx.2.1.far h, hx.2.2.1.far h, hx.2.2.2.1.far h, hx.2.2.2.2.1.far h, hx.2.2.2.2.2.1.far h, hx.2.2.2.2.2.2.far h⟩
theorem IntsV.far {W W' : World} {v : Value} {xs : List Int} (h : IntsV W v xs) (hs : ∀ a n cap, v = .slice (some a) n cap -> W'.heap[a.block]? = W.heap[a.block]?) : IntsV W' v xs := SliceAt.far (AT := IntAt) (fun _ _ _ _ _ q r => IntAt.far q r) h hs
theorem JobsV.far {W W' : World} {v : Value} {xs : List Job} (h : JobsV W v xs) (hs : ∀ a n cap, v = .slice (some a) n cap -> W'.heap[a.block]? = W.heap[a.block]?) : JobsV W' v xs := SliceAt.far (AT := JobAt) (fun _ _ _ _ _ q r => JobAt.far q r) h hs
def SlIn (W : World) (F : Nat -> Prop) (v : Value) (t : TypeId) : Prop := ∀ a n cap, v = .slice (some a) n cap -> F a.block /\ Typed W a.block t
theorem Typed.far {W W' : World} {g : Nat} {t : TypeId} (h : Typed W g t) (hk : W'.heap[g]? = W.heap[g]?) : Typed W' g t := by
 obtain ⟨c, h⟩ := h
 exact ⟨c, hk.trans h⟩
theorem SlIn.far {W W' : World} {F : Nat -> Prop} {v : Value} {t : TypeId} (h : SlIn W F v t) (hk : ∀ g, F g -> Typed W g t -> W'.heap[g]? = W.heap[g]?) : SlIn W' F v t := fun a n cap e => ⟨(h a n cap e).1, (h a n cap e).2.far (hk _ (h a n cap e).1 (h a n cap e).2)⟩
theorem SlIn.mono {W : World} {F G : Nat -> Prop} {v : Value} {t : TypeId} (h : SlIn W F v t) (hFG : ∀ k, F k -> G k) : SlIn W G v t := fun a n cap e => ⟨hFG _ (h a n cap e).1, (h a n cap e).2⟩
theorem SlIn.own {W : World} {b : Nat} {e : TypeId} {size n : Nat} {v : Value} {xs : List Value} (h : W.ownsRow b e size v n xs) : SlIn W (fun k => v.ownBlock = some k) v e := by
 intro a m cap hv
 subst hv
 obtain ⟨g, off, hh⟩ : ∃ g c, Value.slice (some a) m cap = .slice (some ⟨g, 0, none⟩) n c := by
  rcases h.2 with ⟨h, _⟩ | ⟨g, c, cur, h, -⟩
  ·cases h
  ·exact ⟨g, c, h⟩
 injection hh with hh h2 h3
 injection hh with hh
 subst hh
 exact ⟨rfl, own_typed h rfl⟩
theorem Typed.lt {W : World} {g : Nat} {t : TypeId} (h : Typed W g t) : g < W.heap.size := by
 obtain ⟨c, h⟩ := h
 exact lt_of_block h
theorem Typed.keep {W W' : World} {g : Nat} {t : TypeId} (h : Typed W g t) (hb : Below W.heap.size W W') : Typed W' g t := by
 obtain ⟨c, h⟩ := h
 exact ⟨c, keep_at h hb⟩
theorem Typed.grown {W W' : World} {g q : Nat} {t : TypeId} (h : Typed W g t) (hg : W.grownBy W' (some q)) (hne : g ≠ q) : W'.heap[g]? = W.heap[g]? := by
 obtain ⟨c, h⟩ := h
 exact hg.block g (lt_of_block h) (fun e => hne (by injection e))
def runCells (r : TRun) (pv : Value) : Array Value := #[.int .i64 r.t.kind, .int .i64 r.t.period, .int .i64 r.t.deadline, .int .i64 r.t.clow, .int .i64 r.t.chigh, .int .i64 r.t.prio, .int .i64 r.s.last, pv, .int .i64 r.seq]
def RunAt (W : World) (F : Nat -> Prop) (p : Nat) (r : TRun) : Prop := ∃ pv, W.heap[p]? = some (.cells (runCells r pv) 145 (0, 0)) /\ IntsV W pv r.s.picks /\ SlIn W F pv 3
def ptrV (p : Nat) : Value := .pointer (some ⟨p, 0, none⟩)
structure LocAt (W : World) (b lo : Nat) (ps : List Nat) (F : Nat -> Prop) (S : LSt) : Prop where
 fb : F b
 fl : ∀ k, F k -> lo <= k
 ty : ∀ k, F k -> Typed W k 140 ∨ Typed W k 145 ∨ Typed W k 141 ∨ Typed W k 3 ∨ Typed W k 124
 len : ps.length = S.rs.length
 fp : ∀ p ∈ ps, F p
 ne : ps.Nodup
 cell : ∃ tv jv, W.heap[b]? = some (.cells #[.int .i64 S.idx, .int .i64 S.lvl, tv, jv] 140 (0, 0)) /\ W.ownsRow lo 141 1 tv ps.length (ps.map ptrV) /\ SlIn W F tv 141 /\ JobsV W jv S.js /\ SlIn W F jv 124
 runs : ∀ i (h : i < ps.length) (h' : i < S.rs.length), RunAt W F ps[i] S.rs[i]
theorem RunAt.far {W W' : World} {F : Nat -> Prop} {p : Nat} {r : TRun} (h : RunAt W F p r) (hp : W'.heap[p]? = W.heap[p]?) (hk : ∀ k, F k -> Typed W k 3 -> W'.heap[k]? = W.heap[k]?) : RunAt W' F p r := by
 obtain ⟨pv, h1, h2, h3⟩ := h
 exact ⟨pv, hp.trans h1, IntsV.far h2 (fun a n cap e => hk _ (h3 a n cap e).1 (h3 a n cap e).2), h3.far hk⟩
theorem RunAt.mono {W : World} {F G : Nat -> Prop} {p : Nat} {r : TRun} (h : RunAt W F p r) (hFG : ∀ k, F k -> G k) : RunAt W G p r := by
 obtain ⟨pv, h1, h2, h3⟩ := h
 exact ⟨pv, h1, h2, h3.mono hFG⟩
theorem LocAt.lt {W : World} {b lo : Nat} {ps : List Nat} {F : Nat -> Prop} {S : LSt} (h : LocAt W b lo ps F S) {k : Nat} (hk : F k) : k < W.heap.size := by
 rcases h.ty k hk with h | h | h | h | h <;> exact h.lt
theorem LocAt.far {W W' : World} {b lo : Nat} {ps : List Nat} {F : Nat -> Prop} {S : LSt} (h : LocAt W b lo ps F S) (hk : ∀ k, F k -> W'.heap[k]? = W.heap[k]?) : LocAt W' b lo ps F S := by
 obtain ⟨tv, jv, c1, c2, c3, c4, c5⟩ := h.cell
 refine ⟨h.fb, h.fl, fun k hf => ?_, h.len, h.fp, h.ne, ⟨tv, jv, (hk b h.fb).trans c1, ?_, c3.far (fun g hg _ => hk g hg), JobsV.far c4 (fun a n cap e => hk _ (c5 a n cap e).1), c5.far (fun g hg _ => hk g hg)⟩, fun i h1 h2 => (h.runs i h1 h2).far (hk _ (h.fp _ (List.getElem_mem h1))) (fun k hf _ => hk k hf)⟩
 ·rcases h.ty k hf with h | h | h | h | h
  ·exact .inl (h.far (hk k hf))
  ·exact .inr (.inl (h.far (hk k hf)))
  ·exact .inr (.inr (.inl (h.far (hk k hf))))
  ·exact .inr (.inr (.inr (.inl (h.far (hk k hf)))))
  ·exact .inr (.inr (.inr (.inr (h.far (hk k hf)))))
 ·refine ⟨c2.1, ?_⟩
  rcases c2.2 with q | ⟨g, cap, cur, q1, q2, q3, q4⟩
  ·exact .inl q
  ·exact .inr ⟨g, cap, cur, q1, q2, (hk g (c3 _ _ _ q1).1).trans q3, q4⟩
theorem LocAt.keep {W W' : World} {b lo : Nat} {ps : List Nat} {F : Nat -> Prop} {S : LSt} (h : LocAt W b lo ps F S) (hb : Below W.heap.size W W') : LocAt W' b lo ps F S := h.far (fun k hf => hb.block k (h.lt hf))
theorem LocAt.keeps {W W' : World} {b lo : Nat} {ps : List Nat} {F G : Nat -> Prop} {S : LSt} (h : LocAt W b lo ps F S) (hb : Keeps G W W') (hd : ∀ k, F k -> ¬ G k) : LocAt W' b lo ps F S := h.far (fun k hf => hb.block k (h.lt hf) (hd k hf))
theorem LocAt.wide {W : World} {b lo : Nat} {ps : List Nat} {F G : Nat -> Prop} {S : LSt} (h : LocAt W b lo ps F S) (hFG : ∀ k, F k -> G k) (hl : ∀ k, G k -> lo <= k) (ht : ∀ k, G k -> ¬ F k -> Typed W k 3 ∨ Typed W k 124) : LocAt W b lo ps G S := by
 obtain ⟨tv, jv, c1, c2, c3, c4, c5⟩ := h.cell
 refine ⟨hFG _ h.fb, hl, fun k hk => ?_, h.len, fun p hp => hFG _ (h.fp p hp), h.ne, ⟨tv, jv, c1, c2, c3.mono hFG, c4, c5.mono hFG⟩, fun i h1 h2 => (h.runs i h1 h2).mono hFG⟩
 by_cases hf : F k
 ·exact h.ty k hf
 ·rcases ht k hk hf with h | h
  ·exact .inr (.inr (.inr (.inl h)))
  ·exact .inr (.inr (.inr (.inr h)))
theorem LocAt.setRun {W W' : World} {b lo : Nat} {ps : List Nat} {F : Nat -> Prop} {S : LSt} (h : LocAt W b lo ps F S) {i : Nat} (hi : i < ps.length) (hi' : i < S.rs.length) {r' : TRun} {pv' : Value} (hg : W.grownBy W' (some ps[i])) (hn : W'.heap[ps[i]]? = some (.cells (runCells r' pv') 145 (0, 0))) (hv : IntsV W pv' r'.s.picks) (hs : SlIn W F pv' 3) : LocAt W' b lo ps F { S with rs := S.rs.set i r' } := by
 obtain ⟨tv, jv, c1, c2, c3, c4, c5⟩ := h.cell
 have hp : Typed W ps[i] 145 := by
  obtain ⟨pv, q, -⟩ := h.runs i hi hi'
  exact ⟨_, q⟩
 have hk : ∀ {k : Nat} {t : TypeId}, Typed W k t -> t ≠ 145 -> W'.heap[k]? = W.heap[k]? := fun hk hne => hk.grown hg (typed_ne hk hp hne)
 have hb : W'.heap[b]? = W.heap[b]? := hk ⟨_, c1⟩ (by decide)
 refine ⟨h.fb, h.fl, fun k hf => ?_, by simpa using h.len, h.fp, h.ne, ⟨tv, jv, hb.trans c1, ?_, c3.far (fun g _ ht => hk ht (by decide)), JobsV.far c4 (fun a n cap e => hk (c5 a n cap e).2 (by decide)), c5.far (fun g _ ht => hk ht (by decide))⟩, fun j h1 h2 => ?_⟩
 ·by_cases e : k = ps[i]
  ·rw [e]; exact .inr (.inl ⟨_, hn⟩)
  ·rcases h.ty k hf with h | h | h | h | h
   ·exact .inl (h.far (h.grown hg e))
   ·exact .inr (.inl (h.far (h.grown hg e)))
   ·exact .inr (.inr (.inl (h.far (h.grown hg e))))
   ·exact .inr (.inr (.inr (.inl (h.far (h.grown hg e)))))
   ·exact .inr (.inr (.inr (.inr (h.far (h.grown hg e)))))
 ·refine ⟨c2.1, ?_⟩
  rcases c2.2 with q | ⟨g, cap, cur, q1, q2, q3, q4⟩
  ·exact .inl q
  ·exact .inr ⟨g, cap, cur, q1, q2, (hk (c3 _ _ _ q1).2 (by decide)).trans q3, q4⟩
 ·simp only [List.getElem_set]
  by_cases e : i = j
  ·subst e
   rw [if_pos rfl]
   exact ⟨pv', hn, IntsV.far hv (fun a n cap e => hk (hs a n cap e).2 (by decide)), hs.far (fun g _ ht => hk ht (by decide))⟩
  ·rw [if_neg e]
   have hne : ps[j] ≠ ps[i] := fun q => e ((List.getElem_inj h.ne).1 q).symm
   have h2' : j < S.rs.length := by simpa using h2
   have hr := h.runs j h1 h2'
   have ht : Typed W ps[j] 145 := by
    obtain ⟨pv, q, -⟩ := hr
    exact ⟨_, q⟩
   exact hr.far (ht.grown hg hne) (fun k _ ht => hk ht (by decide))
theorem LocAt.setJobs {W W' : World} {b lo : Nat} {ps : List Nat} {F : Nat -> Prop} {S : LSt} (h : LocAt W b lo ps F S) {tv jv jv' : Value} {js' : List Job} (hc : W.heap[b]? = some (.cells #[.int .i64 S.idx, .int .i64 S.lvl, tv, jv] 140 (0, 0))) (hg : W.grownBy W' (some b)) (hn : W'.heap[b]? = some (.cells #[.int .i64 S.idx, .int .i64 S.lvl, tv, jv'] 140 (0, 0))) (hv : JobsV W jv' js') (hs : SlIn W F jv' 124) : LocAt W' b lo ps F { S with js := js' } := by
 obtain ⟨tv2, jv2, c1, c2, c3, c4, c5⟩ := h.cell
 have hb : Typed W b 140 := ⟨_, c1⟩
 rw [hc] at c1
 injection c1 with c1
 injection c1 with c1
 have e1 := congrArg (fun q => q[2]?) c1
 simp only [List.getElem?_toArray, List.getElem?_cons_succ, List.getElem?_cons_zero, Option.some.injEq] at e1
 subst e1
 have hk : ∀ {k : Nat} {t : TypeId}, Typed W k t -> t ≠ 140 -> W'.heap[k]? = W.heap[k]? := fun hk hne => hk.grown hg (typed_ne hk hb hne)
 refine ⟨h.fb, h.fl, fun k hf => ?_, h.len, h.fp, h.ne, ⟨tv, jv', hn, ?_, c3.far (fun g _ ht => hk ht (by decide)), JobsV.far hv (fun a n cap e => hk (hs a n cap e).2 (by decide)), hs.far (fun g _ ht => hk ht (by decide))⟩, fun j h1 h2 => ?_⟩
 ·by_cases e : k = b
  ·rw [e]; exact .inl ⟨_, hn⟩
  ·rcases h.ty k hf with h | h | h | h | h
   ·exact .inl (h.far (h.grown hg e))
   ·exact .inr (.inl (h.far (h.grown hg e)))
   ·exact .inr (.inr (.inl (h.far (h.grown hg e))))
   ·exact .inr (.inr (.inr (.inl (h.far (h.grown hg e)))))
   ·exact .inr (.inr (.inr (.inr (h.far (h.grown hg e)))))
 ·refine ⟨c2.1, ?_⟩
  rcases c2.2 with q | ⟨g, cap, cur, q1, q2, q3, q4⟩
  ·exact .inl q
  ·exact .inr ⟨g, cap, cur, q1, q2, (hk (c3 _ _ _ q1).2 (by decide)).trans q3, q4⟩
 ·have hr := h.runs j h1 h2
  have ht : Typed W ps[j] 145 := by
   obtain ⟨pv, q, -⟩ := hr
   exact ⟨_, q⟩
  exact hr.far (hk ht (by decide)) (fun k _ ht => hk ht (by decide))
theorem LocAt.wrJobs {W W' : World} {b lo : Nat} {ps : List Nat} {F : Nat -> Prop} {S : LSt} (h : LocAt W b lo ps F S) {tv jv : Value} {js' : List Job} {g : Nat} (hc : W.heap[b]? = some (.cells #[.int .i64 S.idx, .int .i64 S.lvl, tv, jv] 140 (0, 0))) (hgt : Typed W g 124) (hgf : F g) (hg : W.grownBy W' (some g)) (hn : Typed W' g 124) (hv : JobsV W' jv js') (hs : SlIn W F jv 124) : LocAt W' b lo ps F { S with js := js' } := by
 obtain ⟨tv2, jv2, c1, c2, c3, c4, c5⟩ := h.cell
 rw [hc] at c1
 injection c1 with c1
 injection c1 with c1
 have e1 := congrArg (fun q => q[2]?) c1
 simp only [List.getElem?_toArray, List.getElem?_cons_succ, List.getElem?_cons_zero, Option.some.injEq] at e1
 subst e1
 have hk : ∀ {k : Nat} {t : TypeId}, Typed W k t -> t ≠ 124 -> W'.heap[k]? = W.heap[k]? := fun hk hne => hk.grown hg (typed_ne hk hgt hne)
 refine ⟨h.fb, h.fl, fun k hf => ?_, h.len, h.fp, h.ne, ⟨tv, jv, (hk ⟨_, hc⟩ (by decide)).trans hc, ?_, c3.far (fun g _ ht => hk ht (by decide)), hv, fun a n cap e => ⟨(hs a n cap e).1, ?_⟩⟩, fun j h1 h2 => ?_⟩
 ·by_cases e : k = g
  ·rw [e]; exact .inr (.inr (.inr (.inr hn)))
  ·rcases h.ty k hf with h | h | h | h | h
   ·exact .inl (h.far (h.grown hg e))
   ·exact .inr (.inl (h.far (h.grown hg e)))
   ·exact .inr (.inr (.inl (h.far (h.grown hg e))))
   ·exact .inr (.inr (.inr (.inl (h.far (h.grown hg e)))))
   ·exact .inr (.inr (.inr (.inr (h.far (h.grown hg e)))))
 ·refine ⟨c2.1, ?_⟩
  rcases c2.2 with q | ⟨g, cap, cur, q1, q2, q3, q4⟩
  ·exact .inl q
  ·exact .inr ⟨g, cap, cur, q1, q2, (hk (c3 _ _ _ q1).2 (by decide)).trans q3, q4⟩
 ·by_cases e' : a.block = g
  ·rw [e']; exact hn
  ·exact (hs a n cap e).2.far ((hs a n cap e).2.grown hg e')
 ·have hr := h.runs j h1 h2
  have ht : Typed W ps[j] 145 := by
   obtain ⟨pv, q, -⟩ := hr
   exact ⟨_, q⟩
  exact hr.far (hk ht (by decide)) (fun k _ ht => hk ht (by decide))
end Go.Proofs.YtooeeiiiflfckaaGreat
/- package jobs: what the methods answer (plain), what holds of every schedule (LWf). -/
namespace Go.Proofs.YtooeeiiiflfckaaGreat
open Go.RowKit
def t0 : Task := ⟨0, 0, 0, 0, 0, 0⟩
def r0 : TRun := ⟨t0, ⟨0, []⟩, 0⟩
def LSt.run (S : LSt) (i : Nat) : TRun := S.rs.getD i r0
def LSt.setR (S : LSt) (i : Nat) (r : TRun) : LSt := { S with rs := S.rs.set i r }
def evt (S : LSt) (k task v : Int) : Event := ⟨k, S.idx, task, v⟩
def TRun.went (r : TRun) (now : Int) : TRun := { r with s := ⟨now, r.s.picks.drop 1⟩ }
def relJ (r : TRun) (i : Nat) (now : Int) : Job := ⟨i, r.seq, r.t.prio, now, now + r.t.deadline, relD r.t r.s, 0⟩
def relS (S : LSt) (i : Nat) (now : Int) : LSt :=
 if relIs (S.run i).t (S.run i).s now = true then
  if putE S.js (relJ (S.run i) i now) = 0 then { (S.setR i { (S.run i).went now with seq := (S.run i).seq + 1 }) with js := putL S.js (relJ (S.run i) i now) }
  else S.setR i ((S.run i).went now)
 else S
def relEv (S : LSt) (i : Nat) (now : Int) : List Event :=
 if relIs (S.run i).t (S.run i).s now = true /\ putE S.js (relJ (S.run i) i now) = 0 then [evt S 1 i (relD (S.run i).t (S.run i).s)] else []
structure LWf (S : LSt) (m : Int) : Prop where
 idx : 0 <= S.idx /\ S.idx < 8
 lvl : S.lvl = 0 ∨ S.lvl = 1
 rs : ∀ r ∈ S.rs, pairMay r.t r.s = true /\ 0 <= r.seq /\ r.seq <= m
 len : S.rs.length <= 6
 js : jobsMay S.js = true
 jt : ∀ j ∈ S.js, 0 <= j.task /\ j.task < S.rs.length
theorem LSt.run_mem {S : LSt} {i : Nat} (h : i < S.rs.length) : S.run i ∈ S.rs := by
 unfold LSt.run
 rw [List.getD_eq_getElem?_getD, List.getElem?_eq_getElem h]
 exact List.getElem_mem h
theorem LSt.run_at {S : LSt} {i : Nat} (h : i < S.rs.length) : S.run i = S.rs[i] := by
 unfold LSt.run
 rw [List.getD_eq_getElem?_getD, List.getElem?_eq_getElem h]
 rfl
theorem went_may {r : TRun} {now : Int} (h : pairMay r.t r.s = true) (hc : clockB now = true) : pairMay (r.went now).t (r.went now).s = true := by
 obtain ⟨h0, h1, h2, h3, h4, -⟩ := pairMay_task h
 unfold clockB at hc
 simp only [decide_eq_true_eq] at hc
 unfold pairMay TRun.went
 simp only [Bool.and_eq_true, decide_eq_true_eq, Bool.not_eq_true', List.any_eq_false, List.length_drop]
 refine ⟨⟨⟨⟨h0, by omega⟩, by omega⟩, by omega⟩, fun d hd => ?_⟩
 rw [h4 d (List.mem_of_mem_drop hd)]
 simp
theorem LWf.set {S : LSt} {m : Int} (h : LWf S m) (i : Nat) {r : TRun} (hr : pairMay r.t r.s = true /\ 0 <= r.seq /\ r.seq <= m) : LWf (S.setR i r) m :=
 ⟨h.idx, h.lvl, fun x hx => by rcases List.mem_or_eq_of_mem_set hx with hx | rfl; exact h.rs x hx; exact hr, by simpa [LSt.setR] using h.len, h.js, fun j hj => by have := h.jt j hj; simpa [LSt.setR] using this⟩
theorem LWf.mono {S : LSt} {m n : Int} (h : LWf S m) (hn : m <= n) : LWf S n := ⟨h.idx, h.lvl, fun r hr => by have := h.rs r hr; exact ⟨this.1, this.2.1, by omega⟩, h.len, h.js, h.jt⟩
theorem relS_wf {S : LSt} {m : Int} (h : LWf S m) {i : Nat} (hi : i < S.rs.length) {now : Int} (hc : clockB now = true) : LWf (relS S i now) (m + 1) := by
 have hr := h.rs _ (LSt.run_mem hi)
 have hw := went_may (now := now) hr.1 hc
 unfold relS
 split
 ·split
  ·rename_i h1 h2
   have h3 := (h.set i (r := { (S.run i).went now with seq := (S.run i).seq + 1 }) (m := m) |> fun _ => (h.mono (by omega : m <= m + 1)).set i (r := { (S.run i).went now with seq := (S.run i).seq + 1 }) ⟨hw, by simp only; omega, by simp only; omega⟩)
   refine ⟨h3.idx, h3.lvl, h3.rs, h3.len, putL_may h2, fun j hj => ?_⟩
   rcases putL_mem.1 hj with hj | rfl
   ·exact h3.jt j hj
   ·simp only [relJ, LSt.setR, List.length_set]
    omega
  ·exact (h.mono (by omega)).set i ⟨hw, by show 0 <= (S.run i).seq; omega, by show (S.run i).seq <= m + 1; omega⟩
 ·exact h.mono (by omega)
theorem relS_len (S : LSt) (i : Nat) (now : Int) : (relS S i now).rs.length = S.rs.length /\ (relS S i now).idx = S.idx /\ (relS S i now).lvl = S.lvl := by
 unfold relS
 split
 ·split <;> simp [LSt.setR]
 ·simp
end Go.Proofs.YtooeeiiiflfckaaGreat
/- package jobs: event, release (printed by genloc2.py). -/
namespace Go.Proofs.YtooeeiiiflfckaaGreat
open Go.RowKit
def aggOf (v : Value) : Array Value := match v with
 | .agg a => a
 | _ => #[]
set_option maxRecDepth 100000 in
set_option maxHeartbeats 1000000 in
theorem event_any (b : Nat) (idx k t v : Int) (w : World) (h : w.cell? ⟨b, 0, none⟩ = some (.int .i64 idx)) :
  Calls Tryz.prog 72 #[.pointer (some ⟨b, 0, none⟩), .int .i64 k, .int .i64 t, .int .i64 v] w fun e w' => e = .returned (evV ⟨k, idx, t, v⟩) /\ Below w.heap.size w w' := by
 go_enter Tryz.func72, Tryz.ntmps72
 have hlt : b < w.heap.size := by
  cases hq : w.heap[b]? with
  | none => unfold World.cell? at h; simp [hq] at h
  | some o => exact lt_of_block hq
 have hb := blk_new w (.cells #[.int .i64 k, .int .i64 idx, .int .i64 t, .int .i64 v] 45)
 have x0 := BlockIs.of hb 0 _ rfl
 have x1 := BlockIs.of hb 1 _ rfl
 have x2 := BlockIs.of hb 2 _ rfl
 have x3 := BlockIs.of hb 3 _ rfl
 clear hb
 go_wp2_with fail
 refine bodyPost_ret (v := evV ⟨k, idx, t, v⟩) (by simp [results, Tryz.results72, go_sem, x0, x1, x2, x3]) rfl ⟨rfl, balloc _ _⟩
def RlV (p : Nat) (r : TRun) (pv : Value) (now : Int) (a : Nat) (v : Value) : Prop := match a with
 | 0 => v = .pointer (some ⟨p, 0, none⟩)
 | 1 => v = .pointer (some ⟨p, 0, none⟩)
 | 2 => v = .pointer (some ⟨p, 0, none⟩)
 | 3 => v = .agg #[.int .i64 r.t.kind, .int .i64 r.t.period, .int .i64 r.t.deadline, .int .i64 r.t.clow, .int .i64 r.t.chigh, .int .i64 r.t.prio]
 | 4 => v = .pointer (some ⟨p, 0, none⟩)
 | 5 => v = .pointer (some ⟨p, 0, none⟩)
 | 6 => v = .pointer (some ⟨p, 6, none⟩)
 | 7 => v = .agg #[.int .i64 r.s.last, pv]
 | 8 => v = .int .i64 now
 | _ => True
def RpV (b p i : Nat) (ja : Option Addr) (jn jc : Nat) (r : TRun) (now : Int) (a : Nat) (v : Value) : Prop := match a with
 | 0 => v = .pointer (some ⟨b, 0, none⟩)
 | 1 => v = .pointer (some ⟨b, 0, none⟩)
 | 2 => v = .pointer (some ⟨b, 3, none⟩)
 | 3 => v = .slice ja jn jc
 | 4 => v = .int .i64 (i : Int)
 | 5 => v = .pointer (some ⟨p, 0, none⟩)
 | 6 => v = .pointer (some ⟨p, 0, none⟩)
 | 7 => v = .pointer (some ⟨p, 8, none⟩)
 | 8 => v = .int .i64 r.seq
 | 9 => v = .pointer (some ⟨p, 0, none⟩)
 | 10 => v = .pointer (some ⟨p, 0, none⟩)
 | 11 => v = .pointer (some ⟨p, 0, none⟩)
 | 12 => v = .pointer (some ⟨p, 5, none⟩)
 | 13 => v = .int .i64 r.t.prio
 | 14 => v = .int .i64 now
 | 15 => v = .int .i64 now
 | 16 => v = .pointer (some ⟨p, 0, none⟩)
 | 17 => v = .pointer (some ⟨p, 0, none⟩)
 | 18 => v = .pointer (some ⟨p, 0, none⟩)
 | 19 => v = .pointer (some ⟨p, 2, none⟩)
 | 20 => v = .int .i64 r.t.deadline
 | 21 => v = .int .i64 (now + r.t.deadline)
 | 22 => v = .int .i64 (relD r.t r.s)
 | 23 => v = .agg #[.int .i64 (i : Int), .int .i64 r.seq, .int .i64 r.t.prio, .int .i64 now, .int .i64 (now + r.t.deadline), .int .i64 (relD r.t r.s), .int .i64 0]
 | _ => True
theorem LocAt.task {W : World} {b lo : Nat} {ps : List Nat} {F : Nat -> Prop} {S : LSt} (h : LocAt W b lo ps F S) (hn : 0 < ps.length) : ∃ tg tc jv, W.heap[b]? = some (.cells #[.int .i64 S.idx, .int .i64 S.lvl, .slice (some ⟨tg, 0, none⟩) ps.length tc, jv] 140 (0, 0)) /\ (∀ i (hi : i < ps.length), W.cell? ⟨tg, i, none⟩ = some (.pointer (some ⟨ps[i], 0, none⟩))) /\ JobsV W jv S.js /\ SlIn W F jv 124 := by
 obtain ⟨tv, jv, c1, c2, c3, c4, c5⟩ := h.cell
 obtain ⟨g, cap, rfl, -, -, -⟩ := ownsRow_some c2 hn
 refine ⟨g, cap, jv, c1, fun i hi => ?_, c4, c5⟩
 rw [c2.cellAt i (by omega)]
 simp [ptrV, List.getElem?_eq_getElem hi]
theorem own_one (w : World) (e : TypeId) (size : Nat) (cs : List Value) (hl : cs.length = size) : (w.alloc (.cells cs.toArray e)).ownsRow w.heap.size e size (.slice (some ⟨w.heap.size, 0, none⟩) 1 1) 1 cs :=
 ⟨by omega, .inr ⟨w.heap.size, 1, cs.toArray, rfl, Nat.le_refl _, blk_new _ _, by omega, by simp [maxLen], by simp [hl], by rw [<- hl]; simp⟩⟩
set_option maxRecDepth 100000 in
set_option maxHeartbeats 8000000 in
theorem release_any (b lo : Nat) (ps : List Nat) (F : Nat -> Prop) (S : LSt) (m : Int) (i : Nat) (now : Int) (w : World) (h : LocAt w b lo ps F S) (hw : LWf S m) (hm : m < 4611686018427387904) (hi : i < S.rs.length) (hc : clockB now = true) :
  Calls Tryz.prog 73 #[.pointer (some ⟨b, 0, none⟩), .int .i64 i, .int .i64 now] w fun e w' => ∃ a n c, e = .returned (.slice a n c) /\ ∃ F', LocAt w' b lo ps F' (relS S i now) /\ EvRow w' w.heap.size (.slice a n c) (relEv S i now) /\ Keeps F w w' /\ (∀ k, F k -> F' k) /\ (∀ k, F' k -> F k ∨ w.heap.size <= k) := by
 have hip : i < ps.length := by rw [h.len]; exact hi
 have hlo : lo <= w.heap.size := by have := h.fl b h.fb; have := h.lt h.fb; omega
 obtain ⟨tg, tc, jv, c1, c2, c4, c5⟩ := h.task (by omega)
 obtain ⟨p, hp⟩ : ∃ p, p = ps[i] := ⟨_, rfl⟩
 obtain ⟨r, hr⟩ : ∃ r, r = S.run i := ⟨_, rfl⟩
 have hrw := hw.rs _ (LSt.run_mem hi)
 rw [<- hr] at hrw
 obtain ⟨pv, hk, hv, hs⟩ := h.runs i hip hi
 rw [<- LSt.run_at hi, <- hr, <- hp] at hk
 rw [<- LSt.run_at hi, <- hr] at hv
 unfold runCells at hk
 have HKP := Lib.hid hk
 have HPV := Lib.hid hv
 have HL := Lib.hid h
 have x2 := BlockIs.of c1 2 _ rfl
 have xi := c2 i hip
 rw [<- hp] at xi
 obtain ⟨ris, hris⟩ : ∃ ris, ris = relIs r.t r.s now := ⟨_, rfl⟩
 have HRI := Lib.hid hris
 have HPP := Lib.hid (And.intro hp (And.intro hr (And.intro hip hi)))
 have HW := Lib.hid hw
 have HRW := Lib.hid hrw
 have HC := Lib.hid hc
 have HJ := Lib.hid (And.intro c1 (And.intro c4 c5))
 have d1 : (i : Int) < (ps.length : Int) := by omega
 have hdl : 1 <= r.t.deadline /\ r.t.deadline <= 1024 := by
  have h1 := (pairMay_task hrw.1).1
  unfold taskMay at h1
  simp only [decide_eq_true_eq] at h1
  omega
 have hnow : 0 <= now /\ now <= 1099511627776 := by unfold clockB at hc; exact of_decide_eq_true hc
 clear h hw hk hv hs c1 c2 c4 c5 hp hr hris hrw hc
 go_enter Tryz.func73, Tryz.ntmps73
 go_wp2_with fail
 refine region_inv0 rfl (by kernel_rfl) (CInv w (RlV p r pv now) 9 (fun v W => ∃ l1 a1 n1 c1 d1, v = .tuple #[.agg #[.int .i64 l1, .slice a1 n1 c1], .int .i64 d1, .bool ris] /\ (ris = true -> l1 = now /\ d1 = relD r.t r.s /\ IntRow W w.heap.size (.slice a1 n1 c1) (r.s.picks.drop 1))) [(10, fun v => v), (11, tupAt 0), (12, tupAt 1), (13, tupAt 2), (16, tupAt 1), (17, tupAt 2)] [⟨14, 15, 143, #[.int .i64 0, .slice none 0 0], (fun v => aggOf (tupAt 0 v))⟩]) (fun vs h0 => ⟨(fun i h => by cases h), below_drew (Below.refl _ _), (fun h => by cases h), (fun _ _ h => by cases h), (fun _ _ h => by cases h), (fun _ _ _ _ _ h => by cases h)⟩) ?_ ?_
 ·simp (config := { maxSteps := 4000000 }) only [List.map, putAll, Act.put, InvE, List.setIfInBounds_toArray, List.set_cons_succ, List.set_cons_zero, Nat.reduceAdd]
  refine ⟨?_, ?_, ?_, ?_, ?_, ?_, ?_, ?_, ?_, ?_, ?_, ?_, ?_, ?_, ?_, ?_, ?_, ?_, trivial⟩
  all_goals
   intro L vs W hI hi hn hcl K hK
   rw [if_pos (by simp [Region.wanted])]
  ·have HK := Lib.hid (fun (v : Value) (h : v = .pointer (some ⟨p, 0, none⟩)) => hK v W (hI.pure (by decide) (by simp) h (by simp)))
   clear hK hI hn hcl hi
   go_simp
   exact HK.out _ rfl
  ·have r0 : vs 0 = _ := hI.pv 0 (hn 0 rfl)
   simp only [r0] at hK |-
   have HK := Lib.hid (fun (v : Value) (h : v = .pointer (some ⟨p, 0, none⟩)) => hK v W (hI.pure (by decide) (by simp) h (by simp)))
   clear hK hI hn hcl hi
   go_simp
   exact HK.out _ rfl
  ·have r1 : vs 1 = _ := hI.pv 1 (hn 1 rfl)
   simp only [r1] at hK |-
   have HK := Lib.hid (fun (v : Value) (h : v = .pointer (some ⟨p, 0, none⟩)) => hK v W (hI.pure (by decide) (by simp) h (by simp)))
   clear hK hI hn hcl hi
   go_simp
   exact HK.out _ rfl
  ·have r2 : vs 2 = _ := hI.pv 2 (hn 2 rfl)
   have hk := keep_at HKP.out hI.below
   have y0 := BlockIs.of hk 0 _ rfl
   have y1 := BlockIs.of hk 1 _ rfl
   have y2 := BlockIs.of hk 2 _ rfl
   have y3 := BlockIs.of hk 3 _ rfl
   have y4 := BlockIs.of hk 4 _ rfl
   have y5 := BlockIs.of hk 5 _ rfl
   clear hk
   simp only [r2] at hK |-
   have HK := Lib.hid (fun (v : Value) (h : v = .agg #[.int .i64 r.t.kind, .int .i64 r.t.period, .int .i64 r.t.deadline, .int .i64 r.t.clow, .int .i64 r.t.chigh, .int .i64 r.t.prio]) => hK v W (hI.pure (by decide) (by simp) h (by simp)))
   clear hK hI hn hcl hi
   go_simp
   exact HK.out _ rfl
  ·have HK := Lib.hid (fun (v : Value) (h : v = .pointer (some ⟨p, 0, none⟩)) => hK v W (hI.pure (by decide) (by simp) h (by simp)))
   clear hK hI hn hcl hi
   go_simp
   exact HK.out _ rfl
  ·have r4 : vs 4 = _ := hI.pv 4 (hn 4 rfl)
   simp only [r4] at hK |-
   have HK := Lib.hid (fun (v : Value) (h : v = .pointer (some ⟨p, 0, none⟩)) => hK v W (hI.pure (by decide) (by simp) h (by simp)))
   clear hK hI hn hcl hi
   go_simp
   exact HK.out _ rfl
  ·have r5 : vs 5 = _ := hI.pv 5 (hn 5 rfl)
   simp only [r5] at hK |-
   have HK := Lib.hid (fun (v : Value) (h : v = .pointer (some ⟨p, 6, none⟩)) => hK v W (hI.pure (by decide) (by simp) h (by simp)))
   clear hK hI hn hcl hi
   go_simp
   exact HK.out _ rfl
  ·have r6 : vs 6 = _ := hI.pv 6 (hn 6 rfl)
   have hk := keep_at HKP.out hI.below
   have y6 := BlockIs.of hk 6 _ rfl
   have y7 := BlockIs.of hk 7 _ rfl
   clear hk
   simp only [r6] at hK |-
   have HK := Lib.hid (fun (v : Value) (h : v = .agg #[.int .i64 r.s.last, pv]) => hK v W (hI.pure (by decide) (by simp) h (by simp)))
   clear hK hI hn hcl hi
   go_simp
   exact HK.out _ rfl
  ·have HK := Lib.hid (fun (v : Value) (h : v = .int .i64 now) => hK v W (hI.pure (by decide) (by simp) h (by simp)))
   clear hK hI hn hcl hi
   go_simp
   exact HK.out _ rfl
  ·have r3 : vs 3 = _ := hI.pv 3 (hn 3 rfl)
   have r7 : vs 7 = _ := hI.pv 7 (hn 7 rfl)
   have r8 : vs 8 = _ := hI.pv 8 (hn 8 rfl)
   simp only [r3, r7, r8] at hK |-
   have hS0 : L 15 = false := by
    cases h : L 15
    ·rfl
    ·exact absurd (hcl 10 _ rfl (hcl 11 _ rfl (hcl 15 _ rfl h 11 rfl) 10 rfl) 9 rfl) (Bool.eq_false_iff.1 hi)
   have hD10 : L 10 = false := by
    cases h : L 10
    ·rfl
    ·exact absurd (hcl 10 _ rfl h 9 rfl) (Bool.eq_false_iff.1 hi)
   have hD11 : L 11 = false := by
    cases h : L 11
    ·rfl
    ·exact absurd (hcl 10 _ rfl (hcl 11 _ rfl h 10 rfl) 9 rfl) (Bool.eq_false_iff.1 hi)
   have hD12 : L 12 = false := by
    cases h : L 12
    ·rfl
    ·exact absurd (hcl 10 _ rfl (hcl 12 _ rfl h 10 rfl) 9 rfl) (Bool.eq_false_iff.1 hi)
   have hD13 : L 13 = false := by
    cases h : L 13
    ·rfl
    ·exact absurd (hcl 10 _ rfl (hcl 13 _ rfl h 10 rfl) 9 rfl) (Bool.eq_false_iff.1 hi)
   have hD16 : L 16 = false := by
    cases h : L 16
    ·rfl
    ·exact absurd (hcl 10 _ rfl (hcl 12 _ rfl (hcl 16 _ rfl h 12 rfl) 10 rfl) 9 rfl) (Bool.eq_false_iff.1 hi)
   have hD17 : L 17 = false := by
    cases h : L 17
    ·rfl
    ·exact absurd (hcl 10 _ rfl (hcl 13 _ rfl (hcl 17 _ rfl h 13 rfl) 10 rfl) 9 rfl) (Bool.eq_false_iff.1 hi)
   have HX := Lib.hid (And.intro (show ∀ a ∈ ([⟨14, 15, 143, #[.int .i64 0, .slice none 0 0], (fun v => aggOf (tupAt 0 v))⟩] : List OwnB), a.iA ≠ 9 /\ a.iS ≠ 9 /\ L a.iS = false by simp [hS0]) (show ∀ d ∈ ([(10, fun v => v), (11, tupAt 0), (12, tupAt 1), (13, tupAt 2), (16, tupAt 1), (17, tupAt 2)] : List (Nat × (Value -> Value))), d.1 ≠ 9 /\ L d.1 = false by simp [hD10, hD11, hD12, hD13, hD16, hD17]))
   have HK := Lib.hid hK
   have HI := Lib.hid hI
   clear hK hI hn hcl hi hS0 hD10 hD11 hD12 hD13 hD16 hD17
   go_simp
   go_at_call 108
   refine (taskRelease_any r.t r.s.last pv r.s.picks now W (HPV.out.ext (Ext.below HI.out.below))).mono ?_
   rintro e w' ⟨l', a', n', c', dm, rfl, hf, hb⟩
   exact HK.out _ w' (HI.out.call hb ⟨l', a', n', c', dm, by rw [HRI.out], fun h => by obtain ⟨h1, h2, h3⟩ := hf (HRI.out ▸ h); exact ⟨h1, h2, own_lower h3 HI.out.below.size⟩⟩ trivial HX.out.1 HX.out.2)
  ·have hC : L 9 = true := (hn 9 rfl)
   obtain ⟨l1, a1, n1, c1, d1, eC, hF⟩ := hI.res hC
   simp only [eC] at hK |-
   have HK := Lib.hid (fun (v : Value) (h : v = .tuple #[.agg #[.int .i64 l1, .slice a1 n1 c1], .int .i64 d1, .bool ris]) => hK v W (hI.pure (by decide) (by simp) trivial (by simp only [List.mem_cons, List.not_mem_nil, or_false, forall_eq_or_imp, forall_eq]; simp (config := { decide := true }) only [false_implies, forall_const, true_and, and_true, true_implies]; rw [eC]; exact h)))
   clear hK hI hn hcl hi eC hC
   go_simp
   exact HK.out _ rfl
  ·have hC : L 9 = true := (hcl 10 _ rfl (hn 10 rfl) 9 rfl)
   obtain ⟨l1, a1, n1, c1, d1, eC, hF⟩ := hI.res hC
   have r10 : vs 10 = .tuple #[.agg #[.int .i64 l1, .slice a1 n1 c1], .int .i64 d1, .bool ris] := (hI.dep (10, fun v => v) (by simp) (hn 10 rfl)).trans (by first | (rw [eC]; done) | (rw [eC]; rfl))
   simp only [r10] at hK |-
   have HK := Lib.hid (fun (v : Value) (h : v = .agg #[.int .i64 l1, .slice a1 n1 c1]) => hK v W (hI.pure (by decide) (by simp) trivial (by simp only [List.mem_cons, List.not_mem_nil, or_false, forall_eq_or_imp, forall_eq]; simp (config := { decide := true }) only [false_implies, forall_const, true_and, and_true, true_implies]; rw [eC]; exact h)))
   clear hK hI hn hcl hi eC hC
   go_simp
   exact HK.out _ rfl
  ·have hC : L 9 = true := (hcl 10 _ rfl (hn 10 rfl) 9 rfl)
   obtain ⟨l1, a1, n1, c1, d1, eC, hF⟩ := hI.res hC
   have r10 : vs 10 = .tuple #[.agg #[.int .i64 l1, .slice a1 n1 c1], .int .i64 d1, .bool ris] := (hI.dep (10, fun v => v) (by simp) (hn 10 rfl)).trans (by first | (rw [eC]; done) | (rw [eC]; rfl))
   simp only [r10] at hK |-
   have HK := Lib.hid (fun (v : Value) (h : v = .int .i64 d1) => hK v W (hI.pure (by decide) (by simp) trivial (by simp only [List.mem_cons, List.not_mem_nil, or_false, forall_eq_or_imp, forall_eq]; simp (config := { decide := true }) only [false_implies, forall_const, true_and, and_true, true_implies]; rw [eC]; exact h)))
   clear hK hI hn hcl hi eC hC
   go_simp
   exact HK.out _ rfl
  ·have hC : L 9 = true := (hcl 10 _ rfl (hn 10 rfl) 9 rfl)
   obtain ⟨l1, a1, n1, c1, d1, eC, hF⟩ := hI.res hC
   have r10 : vs 10 = .tuple #[.agg #[.int .i64 l1, .slice a1 n1 c1], .int .i64 d1, .bool ris] := (hI.dep (10, fun v => v) (by simp) (hn 10 rfl)).trans (by first | (rw [eC]; done) | (rw [eC]; rfl))
   simp only [r10] at hK |-
   have HK := Lib.hid (fun (v : Value) (h : v = .bool ris) => hK v W (hI.pure (by decide) (by simp) trivial (by simp only [List.mem_cons, List.not_mem_nil, or_false, forall_eq_or_imp, forall_eq]; simp (config := { decide := true }) only [false_implies, forall_const, true_and, and_true, true_implies]; rw [eC]; exact h)))
   clear hK hI hn hcl hi eC hC
   go_simp
   exact HK.out _ rfl
  ·have hS : L 15 = false := by
    cases h : L 15
    ·rfl
    ·exact absurd (hcl 15 _ rfl h 14 rfl) (Bool.eq_false_iff.1 hi)
   have HK := Lib.hid hK
   have HI := Lib.hid hI
   have HS := Lib.hid hS
   clear hK hI hn hcl hi hS
   go_simp
   exact HK.out _ _ (HI.out.alloc ⟨14, 15, 143, #[.int .i64 0, .slice none 0 0], (fun v => aggOf (tupAt 0 v))⟩ (by simp) (by decide) HS.out (by simp) (by decide) (by simp) trivial (fun v W W' h hb => by obtain ⟨l1, a1, n1, c1, d1, e, hf⟩ := h; exact ⟨l1, a1, n1, c1, d1, e, fun q => ⟨(hf q).1, (hf q).2.1, Below.kept (hf q).2.2 hb⟩⟩))
  ·have hC : L 9 = true := (hcl 10 _ rfl (hcl 11 _ rfl (hn 11 rfl) 10 rfl) 9 rfl)
   obtain ⟨l1, a1, n1, c1, d1, eC, hF⟩ := hI.res hC
   have r11 : vs 11 = .agg #[.int .i64 l1, .slice a1 n1 c1] := (hI.dep (11, tupAt 0) (by simp) (hn 11 rfl)).trans (by first | (rw [eC]; done) | (rw [eC]; rfl))
   obtain ⟨g, eg, hgw, hkg⟩ := hI.new ⟨14, 15, 143, #[.int .i64 0, .slice none 0 0], (fun v => aggOf (tupAt 0 v))⟩ (by simp) (hn 14 rfl)
   have eg : vs 14 = .pointer (some ⟨g, 0, none⟩) := eg
   have hkg : W.heap[g]? = some (.cells #[.int .i64 0, .slice none 0 0] 143 (0, 0)) := by rw [hkg]; simp only [hi, Bool.false_eq_true, if_false]
   have o0 := BlockIs.of hkg 0 _ rfl
   have o1 := BlockIs.of hkg 1 _ rfl
   have fz := thaw hkg
   simp only [r11, eg] at hK |-
   have HL := Lib.hid (show L 14 = true from hn 14 rfl)
   have HK := Lib.hid hK
   have HI := Lib.hid hI
   have HEC := Lib.hid eC
   have HKG := Lib.hid hkg
   have HEG := Lib.hid eg
   clear hK hI hn hcl hi hC eC hkg eg
   go_simp
   exact HK.out _ _ (HI.out.store ⟨14, 15, 143, #[.int .i64 0, .slice none 0 0], (fun v => aggOf (tupAt 0 v))⟩ (by simp) (v := undef) (W' := put2 W g (.int .i64 l1) (.slice a1 n1 c1)) HEG.out HL.out (put2_grown W g (.int .i64 l1) (.slice a1 n1 c1)) (by rw [HEC.out]; exact put2_at HKG.out (.int .i64 l1) (.slice a1 n1 c1)) (by decide) (by simp) (by simp) trivial (fun v W W' g h hg ht => by obtain ⟨l1, a1, n1, c1, d1, e, hf⟩ := h; exact ⟨l1, a1, n1, c1, d1, e, fun q => ⟨(hf q).1, (hf q).2.1, own_apart (hf q).2.2 hg (fun g' h' => by injection h' with h'; rw [<- h']; exact ht) (by decide)⟩⟩))
  ·have hC : L 9 = true := (hcl 10 _ rfl (hcl 12 _ rfl (hn 12 rfl) 10 rfl) 9 rfl)
   obtain ⟨l1, a1, n1, c1, d1, eC, hF⟩ := hI.res hC
   have r12 : vs 12 = .int .i64 d1 := (hI.dep (12, tupAt 1) (by simp) (hn 12 rfl)).trans (by first | (rw [eC]; done) | (rw [eC]; rfl))
   simp only [r12] at hK |-
   have HK := Lib.hid (fun (v : Value) (h : v = .int .i64 d1) => hK v W (hI.pure (by decide) (by simp) trivial (by simp only [List.mem_cons, List.not_mem_nil, or_false, forall_eq_or_imp, forall_eq]; simp (config := { decide := true }) only [false_implies, forall_const, true_and, and_true, true_implies]; rw [eC]; exact h)))
   clear hK hI hn hcl hi eC hC
   go_simp
   exact HK.out _ rfl
  ·have hC : L 9 = true := (hcl 10 _ rfl (hcl 13 _ rfl (hn 13 rfl) 10 rfl) 9 rfl)
   obtain ⟨l1, a1, n1, c1, d1, eC, hF⟩ := hI.res hC
   have r13 : vs 13 = .bool ris := (hI.dep (13, tupAt 2) (by simp) (hn 13 rfl)).trans (by first | (rw [eC]; done) | (rw [eC]; rfl))
   simp only [r13] at hK |-
   have HK := Lib.hid (fun (v : Value) (h : v = .bool ris) => hK v W (hI.pure (by decide) (by simp) trivial (by simp only [List.mem_cons, List.not_mem_nil, or_false, forall_eq_or_imp, forall_eq]; simp (config := { decide := true }) only [false_implies, forall_const, true_and, and_true, true_implies]; rw [eC]; exact h)))
   clear hK hI hn hcl hi eC hC
   go_simp
   exact HK.out _ rfl
 ·intro vs W hI
  simp only [List.map, putAll, Act.put, List.setIfInBounds_toArray, List.set_cons_succ, List.set_cons_zero, Nat.reduceAdd]
  have HBW := Lib.hid hI.below
  obtain ⟨l1, a1, n1, c1, d1, eC, hF⟩ := hI.res (by simp)
  have r0 : vs 0 = _ := hI.pv 0 (by simp)
  have r1 : vs 1 = _ := hI.pv 1 (by simp)
  have r2 : vs 2 = _ := hI.pv 2 (by simp)
  have r3 : vs 3 = _ := hI.pv 3 (by simp)
  have r4 : vs 4 = _ := hI.pv 4 (by simp)
  have r5 : vs 5 = _ := hI.pv 5 (by simp)
  have r6 : vs 6 = _ := hI.pv 6 (by simp)
  have r7 : vs 7 = _ := hI.pv 7 (by simp)
  have r8 : vs 8 = _ := hI.pv 8 (by simp)
  have r10 : vs 10 = .tuple #[.agg #[.int .i64 l1, .slice a1 n1 c1], .int .i64 d1, .bool ris] := (hI.dep (10, fun v => v) (by simp) (by simp)).trans (by first | (rw [eC]; done) | (rw [eC]; rfl))
  have r11 : vs 11 = .agg #[.int .i64 l1, .slice a1 n1 c1] := (hI.dep (11, tupAt 0) (by simp) (by simp)).trans (by first | (rw [eC]; done) | (rw [eC]; rfl))
  have r12 : vs 12 = .int .i64 d1 := (hI.dep (12, tupAt 1) (by simp) (by simp)).trans (by first | (rw [eC]; done) | (rw [eC]; rfl))
  have r13 : vs 13 = .bool ris := (hI.dep (13, tupAt 2) (by simp) (by simp)).trans (by first | (rw [eC]; done) | (rw [eC]; rfl))
  have r16 : vs 16 = .int .i64 d1 := (hI.dep (16, tupAt 1) (by simp) (by simp)).trans (by first | (rw [eC]; done) | (rw [eC]; rfl))
  have r17 : vs 17 = .bool ris := (hI.dep (17, tupAt 2) (by simp) (by simp)).trans (by first | (rw [eC]; done) | (rw [eC]; rfl))
  obtain ⟨g0, r14, hgw0, hkg0⟩ := hI.new ⟨14, 15, 143, #[.int .i64 0, .slice none 0 0], (fun v => aggOf (tupAt 0 v))⟩ (by simp) (by simp)
  have r14 : vs 14 = .pointer (some ⟨g0, 0, none⟩) := r14
  have hkg0 : W.heap[g0]? = some (.cells #[.int .i64 l1, .slice a1 n1 c1] 143 (0, 0)) := by rw [hkg0, eC]; rfl
  simp only [eC, r0, r1, r2, r3, r4, r5, r6, r7, r8, r10, r11, r12, r13, r16, r17, r14]
  clear hI eC r0 r1 r2 r3 r4 r5 r6 r7 r8 r10 r11 r12 r13 r16 r17 r14
  obtain ⟨w1, hw1⟩ : ∃ w1, w1 = W := ⟨_, rfl⟩
  rw [<- hw1] at HBW hkg0 hF |-
  have HL1 := Lib.hid (HL.out.keep HBW.out)
  clear hw1
  cases ris
  ·have HE := Lib.hid (show relS S i now = S /\ relEv S i now = [] by
    have h1 : relIs (S.run i).t (S.run i).s now = false := by rw [<- HPP.out.2.1, <- HRI.out]
    exact ⟨by unfold relS; rw [h1]; rfl, by unfold relEv; rw [h1]; simp⟩)
   go_wp2_with fail
   go_ret
   exact ⟨none, 0, 0, rfl, F, by rw [HE.out.1]; exact HL1.out, by rw [HE.out.2]; exact World.ownsRow_nil _ _ _ _, Keeps.of_below HBW.out, fun k hk => hk, fun k hk => .inl hk⟩
  ·obtain ⟨e1, rfl, hrow⟩ := hF rfl
   have e1 := e1.symm
   subst e1
   have HKP1 := Lib.hid (keep_at HKP.out HBW.out)
   have HKB1 := Lib.hid (keep_at HJ.out.1 HBW.out)
   have HT := Lib.hid (show relIs (S.run i).t (S.run i).s now = true by rw [<- HPP.out.2.1, <- HRI.out])
   obtain ⟨F1, hF1⟩ : ∃ F1 : Nat -> Prop, F1 = fun k => F k ∨ (Value.slice a1 n1 c1).ownBlock = some k := ⟨_, rfl⟩
   have hL1 : LocAt w1 b lo ps F1 S := HL1.out.wide (fun k hk => by rw [hF1]; exact .inl hk) (fun k hk => by rw [hF1] at hk; rcases hk with hk | hk; exact HL1.out.fl k hk; have := (hrow.lt k hk).1; omega) (fun k hk hf => by rw [hF1] at hk; rcases hk with hk | hk; exact absurd hk hf; exact .inl (own_typed hrow hk))
   have hpw := (pairMay_task HRW.out.1).2.2.2.1
   have hIR : IntsV w1 (.slice a1 n1 c1) (r.went now).s.picks := IntRow.ints hrow (by simp only [TRun.went, List.length_drop]; omega)
   have hSI : SlIn w1 F1 (.slice a1 n1 c1) 3 := (SlIn.own hrow).mono (fun k hk => by rw [hF1]; exact .inr hk)
   obtain ⟨w2, hw2⟩ : ∃ w2, w2 = (w1.setCell ⟨p, 6, none⟩ (.int .i64 now)).setCell ⟨p, 7, none⟩ (.slice a1 n1 c1) := ⟨_, rfl⟩
   have hg2 : w1.grownBy w2 (some p) := by rw [hw2]; exact grown_trans (set_grown _ _ _ _) (set_grown _ _ _ _)
   have hk2 : w2.heap[p]? = some (.cells (runCells (r.went now) (.slice a1 n1 c1)) 145 (0, 0)) := by
    rw [hw2]
    have := blk_set (blk_set HKP1.out 6 (.int .i64 now)) 7 (.slice a1 n1 c1)
    simpa [runCells, TRun.went] using this
   have hpb : p ≠ b := by
    intro e
    have h1 := HKP1.out
    rw [e, HKB1.out] at h1
    injection h1 with h1
    injection h1 with h1 h2
    exact absurd h2 (by decide)
   have HL2 := Lib.hid (show LocAt w2 b lo ps F1 (S.setR i (r.went now)) from hL1.setRun hip hi (by rw [<- HPP.out.1]; exact hg2) (by rw [<- HPP.out.1]; exact hk2) hIR hSI)
   have HKP2 := Lib.hid hk2
   unfold runCells at HKP2
   have HKB2 := Lib.hid ((hg2.block b (lt_of_block HKB1.out) (fun q => hpb (by injection q with q; exact q.symm))).trans HKB1.out)
   have HKE2 := Lib.hid (show Keeps F w w2 from (Keeps.of_below HBW.out).trans (Keeps.of_grown hg2 (fun k hk => by injection hk with hk; rw [<- hk, HPP.out.1]; exact HL.out.fp _ (List.getElem_mem hip))))
   have HF1 := Lib.hid (show (∀ k, F k -> F1 k) /\ ∀ k, F1 k -> F k ∨ w.heap.size <= k from ⟨fun k hk => by rw [hF1]; exact .inl hk, fun k hk => by rw [hF1] at hk; rcases hk with hk | hk; exact .inl hk; exact .inr (hrow.lt k hk).1⟩)
   have o6 := BlockIs.of HKP1.out 6 _ rfl
   have o7 := BlockIs.of HKP1.out 7 _ rfl
   have fp := thaw HKP1.out
   have q0 := BlockIs.of hkg0 0 _ rfl
   have q1 := BlockIs.of hkg0 1 _ rfl
   clear hF hrow hF1 hL1 hIR hSI hg2 hk2 hkg0
   go_wp2_with fail
   rw [<- hw2]
   clear hw2 o6 o7 fp q0 q1 hpw
   obtain ⟨pe, hpe⟩ : ∃ pe, pe = putE S.js (relJ r i now) := ⟨_, rfl⟩
   have HPE := Lib.hid hpe
   obtain ⟨ja, jc, hjv⟩ : ∃ ja jc, jv = .slice ja S.js.length jc := by obtain ⟨a, c, e, -⟩ := HJ.out.2.1; exact ⟨a, c, e⟩
   obtain ⟨jn, hjn⟩ : ∃ jn, jn = S.js.length := ⟨_, rfl⟩
   rw [<- hjn] at hjv
   subst hjv
   have HJV2 := Lib.hid (show JobsV w2 (.slice ja jn jc) S.js by
    obtain ⟨tv, jv2, c1, -, -, c4, -⟩ := HL2.out.cell
    rw [HKB2.out] at c1
    injection c1 with c1
    injection c1 with c1
    have e1 := congrArg (fun q => q[3]?) c1
    simp only [List.getElem?_toArray, List.getElem?_cons_succ, List.getElem?_cons_zero, Option.some.injEq] at e1
    rw [e1]
    exact c4)
   have hwd : IntKind.i64.wrap (now + r.t.deadline) = now + r.t.deadline := by rw [IntKind.wrap_i64]; omega
   clear hpe hjn
   refine region_inv0 rfl (by kernel_rfl) (CInv w2 (RpV b p i ja jn jc r now) 24 (fun v W => ∃ a2 n2 c2, v = .tuple #[.slice a2 n2 c2, .int .i64 pe] /\ (pe = 0 -> JobRow W w2.heap.size (.slice a2 n2 c2) (putL S.js (relJ r i now)))) [(25, fun v => v), (26, tupAt 0), (27, tupAt 1), (28, tupAt 0), (29, tupAt 1)] []) (fun vs h0 => ⟨(fun i h => by cases h), below_drew (Below.refl _ _), (fun h => by cases h), (fun _ _ h => by cases h), (fun _ _ h => by cases h), (fun _ _ _ _ _ h => by cases h)⟩) ?_ ?_
   ·simp (config := { maxSteps := 4000000 }) only [List.map, putAll, Act.put, InvE, List.setIfInBounds_toArray, List.set_cons_succ, List.set_cons_zero, Nat.reduceAdd]
    refine ⟨?_, ?_, ?_, ?_, ?_, ?_, ?_, ?_, ?_, ?_, ?_, ?_, ?_, ?_, ?_, ?_, ?_, ?_, ?_, ?_, ?_, ?_, ?_, ?_, ?_, ?_, ?_, ?_, ?_, ?_, trivial⟩
    all_goals
     intro L vs W hI hi hn hcl K hK
     rw [if_pos (by simp [Region.wanted])]
    ·have HK := Lib.hid (fun (v : Value) (h : v = .pointer (some ⟨b, 0, none⟩)) => hK v W (hI.pure (by decide) (by simp) h (by simp)))
     clear hK hI hn hcl hi
     go_simp
     exact HK.out _ rfl
    ·have r0 : vs 0 = _ := hI.pv 0 (hn 0 rfl)
     simp only [r0] at hK |-
     have HK := Lib.hid (fun (v : Value) (h : v = .pointer (some ⟨b, 0, none⟩)) => hK v W (hI.pure (by decide) (by simp) h (by simp)))
     clear hK hI hn hcl hi
     go_simp
     exact HK.out _ rfl
    ·have r1 : vs 1 = _ := hI.pv 1 (hn 1 rfl)
     simp only [r1] at hK |-
     have HK := Lib.hid (fun (v : Value) (h : v = .pointer (some ⟨b, 3, none⟩)) => hK v W (hI.pure (by decide) (by simp) h (by simp)))
     clear hK hI hn hcl hi
     go_simp
     exact HK.out _ rfl
    ·have r2 : vs 2 = _ := hI.pv 2 (hn 2 rfl)
     have hk := keep_at HKB2.out hI.below
     have z3 := BlockIs.of hk 3 _ rfl
     clear hk
     simp only [r2] at hK |-
     have HK := Lib.hid (fun (v : Value) (h : v = .slice ja jn jc) => hK v W (hI.pure (by decide) (by simp) h (by simp)))
     clear hK hI hn hcl hi
     go_simp
     exact HK.out _ rfl
    ·have HK := Lib.hid (fun (v : Value) (h : v = .int .i64 (i : Int)) => hK v W (hI.pure (by decide) (by simp) h (by simp)))
     clear hK hI hn hcl hi
     go_simp
     exact HK.out _ rfl
    ·have HK := Lib.hid (fun (v : Value) (h : v = .pointer (some ⟨p, 0, none⟩)) => hK v W (hI.pure (by decide) (by simp) h (by simp)))
     clear hK hI hn hcl hi
     go_simp
     exact HK.out _ rfl
    ·have r5 : vs 5 = _ := hI.pv 5 (hn 5 rfl)
     simp only [r5] at hK |-
     have HK := Lib.hid (fun (v : Value) (h : v = .pointer (some ⟨p, 0, none⟩)) => hK v W (hI.pure (by decide) (by simp) h (by simp)))
     clear hK hI hn hcl hi
     go_simp
     exact HK.out _ rfl
    ·have r6 : vs 6 = _ := hI.pv 6 (hn 6 rfl)
     simp only [r6] at hK |-
     have HK := Lib.hid (fun (v : Value) (h : v = .pointer (some ⟨p, 8, none⟩)) => hK v W (hI.pure (by decide) (by simp) h (by simp)))
     clear hK hI hn hcl hi
     go_simp
     exact HK.out _ rfl
    ·have r7 : vs 7 = _ := hI.pv 7 (hn 7 rfl)
     have hk := keep_at HKP2.out hI.below
     have z8 := BlockIs.of hk 8 _ rfl
     clear hk
     simp only [r7] at hK |-
     have HK := Lib.hid (fun (v : Value) (h : v = .int .i64 r.seq) => hK v W (hI.pure (by decide) (by simp) h (by simp)))
     clear hK hI hn hcl hi
     go_simp
     exact HK.out _ rfl
    ·have HK := Lib.hid (fun (v : Value) (h : v = .pointer (some ⟨p, 0, none⟩)) => hK v W (hI.pure (by decide) (by simp) h (by simp)))
     clear hK hI hn hcl hi
     go_simp
     exact HK.out _ rfl
    ·have r9 : vs 9 = _ := hI.pv 9 (hn 9 rfl)
     simp only [r9] at hK |-
     have HK := Lib.hid (fun (v : Value) (h : v = .pointer (some ⟨p, 0, none⟩)) => hK v W (hI.pure (by decide) (by simp) h (by simp)))
     clear hK hI hn hcl hi
     go_simp
     exact HK.out _ rfl
    ·have r10 : vs 10 = _ := hI.pv 10 (hn 10 rfl)
     simp only [r10] at hK |-
     have HK := Lib.hid (fun (v : Value) (h : v = .pointer (some ⟨p, 0, none⟩)) => hK v W (hI.pure (by decide) (by simp) h (by simp)))
     clear hK hI hn hcl hi
     go_simp
     exact HK.out _ rfl
    ·have r11 : vs 11 = _ := hI.pv 11 (hn 11 rfl)
     simp only [r11] at hK |-
     have HK := Lib.hid (fun (v : Value) (h : v = .pointer (some ⟨p, 5, none⟩)) => hK v W (hI.pure (by decide) (by simp) h (by simp)))
     clear hK hI hn hcl hi
     go_simp
     exact HK.out _ rfl
    ·have r12 : vs 12 = _ := hI.pv 12 (hn 12 rfl)
     have hk := keep_at HKP2.out hI.below
     have z5 := BlockIs.of hk 5 _ rfl
     clear hk
     simp only [r12] at hK |-
     have HK := Lib.hid (fun (v : Value) (h : v = .int .i64 r.t.prio) => hK v W (hI.pure (by decide) (by simp) h (by simp)))
     clear hK hI hn hcl hi
     go_simp
     exact HK.out _ rfl
    ·have HK := Lib.hid (fun (v : Value) (h : v = .int .i64 now) => hK v W (hI.pure (by decide) (by simp) h (by simp)))
     clear hK hI hn hcl hi
     go_simp
     exact HK.out _ rfl
    ·have HK := Lib.hid (fun (v : Value) (h : v = .int .i64 now) => hK v W (hI.pure (by decide) (by simp) h (by simp)))
     clear hK hI hn hcl hi
     go_simp
     exact HK.out _ rfl
    ·have HK := Lib.hid (fun (v : Value) (h : v = .pointer (some ⟨p, 0, none⟩)) => hK v W (hI.pure (by decide) (by simp) h (by simp)))
     clear hK hI hn hcl hi
     go_simp
     exact HK.out _ rfl
    ·have r16 : vs 16 = _ := hI.pv 16 (hn 16 rfl)
     simp only [r16] at hK |-
     have HK := Lib.hid (fun (v : Value) (h : v = .pointer (some ⟨p, 0, none⟩)) => hK v W (hI.pure (by decide) (by simp) h (by simp)))
     clear hK hI hn hcl hi
     go_simp
     exact HK.out _ rfl
    ·have r17 : vs 17 = _ := hI.pv 17 (hn 17 rfl)
     simp only [r17] at hK |-
     have HK := Lib.hid (fun (v : Value) (h : v = .pointer (some ⟨p, 0, none⟩)) => hK v W (hI.pure (by decide) (by simp) h (by simp)))
     clear hK hI hn hcl hi
     go_simp
     exact HK.out _ rfl
    ·have r18 : vs 18 = _ := hI.pv 18 (hn 18 rfl)
     simp only [r18] at hK |-
     have HK := Lib.hid (fun (v : Value) (h : v = .pointer (some ⟨p, 2, none⟩)) => hK v W (hI.pure (by decide) (by simp) h (by simp)))
     clear hK hI hn hcl hi
     go_simp
     exact HK.out _ rfl
    ·have r19 : vs 19 = _ := hI.pv 19 (hn 19 rfl)
     have hk := keep_at HKP2.out hI.below
     have z2 := BlockIs.of hk 2 _ rfl
     clear hk
     simp only [r19] at hK |-
     have HK := Lib.hid (fun (v : Value) (h : v = .int .i64 r.t.deadline) => hK v W (hI.pure (by decide) (by simp) h (by simp)))
     clear hK hI hn hcl hi
     go_simp
     exact HK.out _ rfl
    ·have r15 : vs 15 = _ := hI.pv 15 (hn 15 rfl)
     have r20 : vs 20 = _ := hI.pv 20 (hn 20 rfl)
     simp only [r15, r20] at hK |-
     have HK := Lib.hid (fun (v : Value) (h : v = .int .i64 (now + r.t.deadline)) => hK v W (hI.pure (by decide) (by simp) h (by simp)))
     clear hK hI hn hcl hi
     go_simp
     exact HK.out _ rfl
    ·have HK := Lib.hid (fun (v : Value) (h : v = .int .i64 (relD r.t r.s)) => hK v W (hI.pure (by decide) (by simp) h (by simp)))
     clear hK hI hn hcl hi
     go_simp
     exact HK.out _ rfl
    ·have r4 : vs 4 = _ := hI.pv 4 (hn 4 rfl)
     have r8 : vs 8 = _ := hI.pv 8 (hn 8 rfl)
     have r13 : vs 13 = _ := hI.pv 13 (hn 13 rfl)
     have r14 : vs 14 = _ := hI.pv 14 (hn 14 rfl)
     have r21 : vs 21 = _ := hI.pv 21 (hn 21 rfl)
     have r22 : vs 22 = _ := hI.pv 22 (hn 22 rfl)
     simp only [r4, r8, r13, r14, r21, r22] at hK |-
     have HK := Lib.hid (fun (v : Value) (h : v = .agg #[.int .i64 (i : Int), .int .i64 r.seq, .int .i64 r.t.prio, .int .i64 now, .int .i64 (now + r.t.deadline), .int .i64 (relD r.t r.s), .int .i64 0]) => hK v W (hI.pure (by decide) (by simp) h (by simp)))
     clear hK hI hn hcl hi
     go_simp
     exact HK.out _ rfl
    ·have r3 : vs 3 = _ := hI.pv 3 (hn 3 rfl)
     have r23 : vs 23 = _ := hI.pv 23 (hn 23 rfl)
     simp only [r3, r23] at hK |-
     have hD25 : L 25 = false := by
      cases h : L 25
      ·rfl
      ·exact absurd (hcl 25 _ rfl h 24 rfl) (Bool.eq_false_iff.1 hi)
     have hD26 : L 26 = false := by
      cases h : L 26
      ·rfl
      ·exact absurd (hcl 25 _ rfl (hcl 26 _ rfl h 25 rfl) 24 rfl) (Bool.eq_false_iff.1 hi)
     have hD27 : L 27 = false := by
      cases h : L 27
      ·rfl
      ·exact absurd (hcl 25 _ rfl (hcl 27 _ rfl h 25 rfl) 24 rfl) (Bool.eq_false_iff.1 hi)
     have hD28 : L 28 = false := by
      cases h : L 28
      ·rfl
      ·exact absurd (hcl 25 _ rfl (hcl 26 _ rfl (hcl 28 _ rfl h 26 rfl) 25 rfl) 24 rfl) (Bool.eq_false_iff.1 hi)
     have hD29 : L 29 = false := by
      cases h : L 29
      ·rfl
      ·exact absurd (hcl 25 _ rfl (hcl 27 _ rfl (hcl 29 _ rfl h 27 rfl) 25 rfl) 24 rfl) (Bool.eq_false_iff.1 hi)
     have HX := Lib.hid (And.intro (show ∀ a ∈ ([] : List OwnB), a.iA ≠ 24 /\ a.iS ≠ 24 /\ L a.iS = false by simp) (show ∀ d ∈ ([(25, fun v => v), (26, tupAt 0), (27, tupAt 1), (28, tupAt 0), (29, tupAt 1)] : List (Nat × (Value -> Value))), d.1 ≠ 24 /\ L d.1 = false by simp [hD25, hD26, hD27, hD28, hD29]))
     have HK := Lib.hid hK
     have HI := Lib.hid hI
     clear hK hI hn hcl hi hD25 hD26 hD27 hD28 hD29
     go_simp
     go_at_call 109
     refine (put_any _ S.js (relJ r i now) W (HJV2.out.ext (Ext.below HI.out.below))).mono ?_
     rintro e w' ⟨v', rfl, h1, h2, hb⟩
     obtain ⟨a, n, c, rfl⟩ : ∃ a n c, v' = .slice a n c := by
      by_cases hq : putE S.js (relJ r i now) = 0
      ·obtain ⟨a, c, q⟩ := own_shape (h2 hq); exact ⟨a, _, c, q⟩
      ·exact ⟨none, 0, 0, h1 hq⟩
     exact HK.out _ w' (HI.out.call hb ⟨a, n, c, by rw [HPE.out], fun h => own_lower (h2 (HPE.out ▸ h)) HI.out.below.size⟩ trivial HX.out.1 HX.out.2)
    ·have hC : L 24 = true := (hn 24 rfl)
     obtain ⟨a2, n2, c2, eC, hG⟩ := hI.res hC
     simp only [eC] at hK |-
     have HK := Lib.hid (fun (v : Value) (h : v = .tuple #[.slice a2 n2 c2, .int .i64 pe]) => hK v W (hI.pure (by decide) (by simp) trivial (by simp only [List.mem_cons, List.not_mem_nil, or_false, forall_eq_or_imp, forall_eq]; simp (config := { decide := true }) only [false_implies, forall_const, true_and, and_true, true_implies]; rw [eC]; exact h)))
     clear hK hI hn hcl hi eC hC
     go_simp
     exact HK.out _ rfl
    ·have hC : L 24 = true := (hcl 25 _ rfl (hn 25 rfl) 24 rfl)
     obtain ⟨a2, n2, c2, eC, hG⟩ := hI.res hC
     have r25 : vs 25 = .tuple #[.slice a2 n2 c2, .int .i64 pe] := (hI.dep (25, fun v => v) (by simp) (hn 25 rfl)).trans (by first | (rw [eC]; done) | (rw [eC]; rfl))
     simp only [r25] at hK |-
     have HK := Lib.hid (fun (v : Value) (h : v = .slice a2 n2 c2) => hK v W (hI.pure (by decide) (by simp) trivial (by simp only [List.mem_cons, List.not_mem_nil, or_false, forall_eq_or_imp, forall_eq]; simp (config := { decide := true }) only [false_implies, forall_const, true_and, and_true, true_implies]; rw [eC]; exact h)))
     clear hK hI hn hcl hi eC hC
     go_simp
     exact HK.out _ rfl
    ·have hC : L 24 = true := (hcl 25 _ rfl (hn 25 rfl) 24 rfl)
     obtain ⟨a2, n2, c2, eC, hG⟩ := hI.res hC
     have r25 : vs 25 = .tuple #[.slice a2 n2 c2, .int .i64 pe] := (hI.dep (25, fun v => v) (by simp) (hn 25 rfl)).trans (by first | (rw [eC]; done) | (rw [eC]; rfl))
     simp only [r25] at hK |-
     have HK := Lib.hid (fun (v : Value) (h : v = .int .i64 pe) => hK v W (hI.pure (by decide) (by simp) trivial (by simp only [List.mem_cons, List.not_mem_nil, or_false, forall_eq_or_imp, forall_eq]; simp (config := { decide := true }) only [false_implies, forall_const, true_and, and_true, true_implies]; rw [eC]; exact h)))
     clear hK hI hn hcl hi eC hC
     go_simp
     exact HK.out _ rfl
    ·have hC : L 24 = true := (hcl 25 _ rfl (hcl 26 _ rfl (hn 26 rfl) 25 rfl) 24 rfl)
     obtain ⟨a2, n2, c2, eC, hG⟩ := hI.res hC
     have r26 : vs 26 = .slice a2 n2 c2 := (hI.dep (26, tupAt 0) (by simp) (hn 26 rfl)).trans (by first | (rw [eC]; done) | (rw [eC]; rfl))
     simp only [r26] at hK |-
     have HK := Lib.hid (fun (v : Value) (h : v = .slice a2 n2 c2) => hK v W (hI.pure (by decide) (by simp) trivial (by simp only [List.mem_cons, List.not_mem_nil, or_false, forall_eq_or_imp, forall_eq]; simp (config := { decide := true }) only [false_implies, forall_const, true_and, and_true, true_implies]; rw [eC]; exact h)))
     clear hK hI hn hcl hi eC hC
     go_simp
     exact HK.out _ rfl
    ·have hC : L 24 = true := (hcl 25 _ rfl (hcl 27 _ rfl (hn 27 rfl) 25 rfl) 24 rfl)
     obtain ⟨a2, n2, c2, eC, hG⟩ := hI.res hC
     have r27 : vs 27 = .int .i64 pe := (hI.dep (27, tupAt 1) (by simp) (hn 27 rfl)).trans (by first | (rw [eC]; done) | (rw [eC]; rfl))
     simp only [r27] at hK |-
     have HK := Lib.hid (fun (v : Value) (h : v = .int .i64 pe) => hK v W (hI.pure (by decide) (by simp) trivial (by simp only [List.mem_cons, List.not_mem_nil, or_false, forall_eq_or_imp, forall_eq]; simp (config := { decide := true }) only [false_implies, forall_const, true_and, and_true, true_implies]; rw [eC]; exact h)))
     clear hK hI hn hcl hi eC hC
     go_simp
     exact HK.out _ rfl
   ·intro vs W hI
    simp only [List.map, putAll, Act.put, List.setIfInBounds_toArray, List.set_cons_succ, List.set_cons_zero, Nat.reduceAdd]
    have HBW := Lib.hid hI.below
    obtain ⟨a2, n2, c2, eC, hG⟩ := hI.res (by simp)
    have r0 : vs 0 = _ := hI.pv 0 (by simp)
    have r1 : vs 1 = _ := hI.pv 1 (by simp)
    have r2 : vs 2 = _ := hI.pv 2 (by simp)
    have r3 : vs 3 = _ := hI.pv 3 (by simp)
    have r4 : vs 4 = _ := hI.pv 4 (by simp)
    have r5 : vs 5 = _ := hI.pv 5 (by simp)
    have r6 : vs 6 = _ := hI.pv 6 (by simp)
    have r7 : vs 7 = _ := hI.pv 7 (by simp)
    have r8 : vs 8 = _ := hI.pv 8 (by simp)
    have r9 : vs 9 = _ := hI.pv 9 (by simp)
    have r10 : vs 10 = _ := hI.pv 10 (by simp)
    have r11 : vs 11 = _ := hI.pv 11 (by simp)
    have r12 : vs 12 = _ := hI.pv 12 (by simp)
    have r13 : vs 13 = _ := hI.pv 13 (by simp)
    have r14 : vs 14 = _ := hI.pv 14 (by simp)
    have r15 : vs 15 = _ := hI.pv 15 (by simp)
    have r16 : vs 16 = _ := hI.pv 16 (by simp)
    have r17 : vs 17 = _ := hI.pv 17 (by simp)
    have r18 : vs 18 = _ := hI.pv 18 (by simp)
    have r19 : vs 19 = _ := hI.pv 19 (by simp)
    have r20 : vs 20 = _ := hI.pv 20 (by simp)
    have r21 : vs 21 = _ := hI.pv 21 (by simp)
    have r22 : vs 22 = _ := hI.pv 22 (by simp)
    have r23 : vs 23 = _ := hI.pv 23 (by simp)
    have r25 : vs 25 = .tuple #[.slice a2 n2 c2, .int .i64 pe] := (hI.dep (25, fun v => v) (by simp) (by simp)).trans (by first | (rw [eC]; done) | (rw [eC]; rfl))
    have r26 : vs 26 = .slice a2 n2 c2 := (hI.dep (26, tupAt 0) (by simp) (by simp)).trans (by first | (rw [eC]; done) | (rw [eC]; rfl))
    have r27 : vs 27 = .int .i64 pe := (hI.dep (27, tupAt 1) (by simp) (by simp)).trans (by first | (rw [eC]; done) | (rw [eC]; rfl))
    have r28 : vs 28 = .slice a2 n2 c2 := (hI.dep (28, tupAt 0) (by simp) (by simp)).trans (by first | (rw [eC]; done) | (rw [eC]; rfl))
    have r29 : vs 29 = .int .i64 pe := (hI.dep (29, tupAt 1) (by simp) (by simp)).trans (by first | (rw [eC]; done) | (rw [eC]; rfl))
    simp only [eC, r0, r1, r2, r3, r4, r5, r6, r7, r8, r9, r10, r11, r12, r13, r14, r15, r16, r17, r18, r19, r20, r21, r22, r23, r25, r26, r27, r28, r29]
    clear hI eC r0 r1 r2 r3 r4 r5 r6 r7 r8 r9 r10 r11 r12 r13 r14 r15 r16 r17 r18 r19 r20 r21 r22 r23 r25 r26 r27 r28 r29
    obtain ⟨w3, hw3⟩ : ∃ w3, w3 = W := ⟨_, rfl⟩
    rw [<- hw3] at HBW hG |-
    have HL3 := Lib.hid (HL2.out.keep HBW.out)
    have HKP3 := Lib.hid (keep_at HKP2.out HBW.out)
    have HKB3 := Lib.hid (keep_at HKB2.out HBW.out)
    have HKE3 := Lib.hid (HKE2.out.trans (Keeps.of_below HBW.out))
    clear hw3
    by_cases hp0 : pe = 0
    ·subst hp0
     have hrow2 := hG rfl
     obtain ⟨F2, hF2⟩ : ∃ F2 : Nat -> Prop, F2 = fun k => F1 k ∨ (Value.slice a2 n2 c2).ownBlock = some k := ⟨_, rfl⟩
     have hsz := HKE2.out.size
     have hL3 : LocAt w3 b lo ps F2 (S.setR i (r.went now)) := HL3.out.wide (fun k hk => by rw [hF2]; exact .inl hk) (fun k hk => by rw [hF2] at hk; rcases hk with hk | hk; exact HL3.out.fl k hk; have := (hrow2.lt k hk).1; omega) (fun k hk hf => by rw [hF2] at hk; rcases hk with hk | hk; exact absurd hk hf; exact .inr (own_typed hrow2 hk))
     have hpz : putE S.js (relJ r i now) = 0 := HPE.out.symm
     have hJV : JobsV w3 (.slice a2 n2 c2) (putL S.js (relJ r i now)) := JobRow.jobs hrow2 (by have := ((jobsMay_iff _).1 (putL_may hpz)).2; omega)
     have hSI : SlIn w3 F2 (.slice a2 n2 c2) 124 := (SlIn.own hrow2).mono (fun k hk => by rw [hF2]; exact .inr hk)
     obtain ⟨w4, hw4⟩ : ∃ w4, w4 = w3.setCell ⟨b, 3, none⟩ (.slice a2 n2 c2) := ⟨_, rfl⟩
     have hg4 : w3.grownBy w4 (some b) := by rw [hw4]; exact set_grown _ _ _ _
     have hk4 : w4.heap[b]? = some (.cells #[.int .i64 S.idx, .int .i64 S.lvl, .slice (some ⟨tg, 0, none⟩) ps.length tc, .slice a2 n2 c2] 140 (0, 0)) := by
      rw [hw4]
      have := blk_set HKB3.out 3 (.slice a2 n2 c2)
      simpa using this
     have hL4 : LocAt w4 b lo ps F2 { S.setR i (r.went now) with js := putL S.js (relJ r i now) } := hL3.setJobs HKB3.out hg4 hk4 hJV hSI
     obtain ⟨pv', q1, q2, q3⟩ := hL4.runs i hip (by simpa [LSt.setR] using hi)
     have hri : (S.setR i (r.went now)).rs[i]'(by simpa [LSt.setR] using hi) = r.went now := by simp [LSt.setR]
     simp only [hri] at q1 q2
     rw [<- HPP.out.1] at q1
     have hp4 := (hg4.block p (lt_of_block HKP3.out) (fun q => hpb (by injection q))).trans HKP3.out
     obtain ⟨w5, hw5⟩ : ∃ w5, w5 = w4.setCell ⟨p, 8, none⟩ (.int .i64 (r.seq + 1)) := ⟨_, rfl⟩
     have hg5 : w4.grownBy w5 (some p) := by rw [hw5]; exact set_grown _ _ _ _
     have hk5 : w5.heap[p]? = some (.cells (runCells { r.went now with seq := r.seq + 1 } pv') 145 (0, 0)) := by
      rw [hw5]
      have := blk_set q1 8 (.int .i64 (r.seq + 1))
      simpa [runCells, TRun.went] using this
     have hL5 := hL4.setRun (r' := { r.went now with seq := r.seq + 1 }) (pv' := pv') hip (by simpa [LSt.setR] using hi) (by rw [<- HPP.out.1]; exact hg5) (by rw [<- HPP.out.1]; exact hk5) q2 q3
     have HL5 := Lib.hid (show LocAt w5 b lo ps F2 (relS S i now) by
      have e : relS S i now = { S with rs := (S.rs.set i (r.went now)).set i { r.went now with seq := r.seq + 1 }, js := putL S.js (relJ r i now) } := by
       unfold relS
       rw [if_pos HT.out, <- HPP.out.2.1, if_pos hpz, List.set_set]
       rfl
      rw [e]
      exact hL5)
     have HE := Lib.hid (show relEv S i now = [⟨1, S.idx, i, relD r.t r.s⟩] by
      unfold relEv
      rw [if_pos ⟨HT.out, by rw [<- HPP.out.2.1]; exact hpz⟩, <- HPP.out.2.1]
      rfl)
     have HKE5 := Lib.hid (show Keeps F w w5 from (HKE3.out.trans (Keeps.of_grown hg4 (fun k hk => by injection hk with hk; rw [<- hk]; exact HL.out.fb))).trans (Keeps.of_grown hg5 (fun k hk => by injection hk with hk; rw [<- hk, HPP.out.1]; exact HL.out.fp _ (List.getElem_mem hip))))
     have HF2 := Lib.hid (show (∀ k, F k -> F2 k) /\ ∀ k, F2 k -> F k ∨ w.heap.size <= k from ⟨fun k hk => by rw [hF2]; exact .inl (HF1.out.1 k hk), fun k hk => by rw [hF2] at hk; rcases hk with hk | hk; exact HF1.out.2 k hk; have := (hrow2.lt k hk).1; right; omega⟩)
     have s3 := BlockIs.of HKB3.out 3 _ rfl
     have f3 := thaw HKB3.out
     have s8 : w4.cell? ⟨p, 8, none⟩ = some (.int .i64 r.seq) := BlockIs.of hp4 8 _ rfl
     have f8 := thaw hp4
     have s8' : w3.cell? ⟨p, 8, none⟩ = some (.int .i64 r.seq) := BlockIs.of HKP3.out 8 _ rfl
     have f8' := thaw HKP3.out
     have hsq : IntKind.i64.wrap (r.seq + 1) = r.seq + 1 := by rw [IntKind.wrap_i64]; have := HRW.out.2; omega
     have hbp : b ≠ p := fun q => hpb q.symm
     clear hG hrow2 hF2 hL3 hJV hSI hg4 hk4 hL4 q1 q2 q3 hri hp4 hg5 hk5 hL5 hpz hsz
     go_wp2_with fail
     rw [<- hw4, <- hw5]
     clear hw4 hw5 s3 f3 s8 f8 s8' f8'
     refine (event_any b S.idx 1 i (relD r.t r.s) w5 (by obtain ⟨tv, jv2, c1, -⟩ := HL5.out.cell; have h := BlockIs.of c1 0 _ rfl; rw [(relS_len S i now).2.1] at h; exact h)).mono ?_
     rintro e w6 ⟨rfl, hb6⟩
     have HB6 := Lib.hid hb6
     have HL6 := Lib.hid (HL5.out.keep (bthen hb6 (balloc w6 (.cells (evCells ⟨1, S.idx, i, relD r.t r.s⟩).toArray 45))))
     clear hb6
     go_wp2_with fail
     go_ret
     refine ⟨some ⟨w6.heap.size, 0, none⟩, 1, 1, rfl, F2, HL6.out, ?_, HKE5.out.trans (Keeps.of_below (bthen HB6.out (balloc _ _))), HF2.out.1, HF2.out.2⟩
     rw [HE.out]
     exact own_lower (own_one w6 _ 4 _ rfl) (Nat.le_trans HKE5.out.size HB6.out.size)
    ·have hpe0 : (pe == 0) = false := by simpa using hp0
     have HE := Lib.hid (show relS S i now = S.setR i (r.went now) /\ relEv S i now = [] by
      have h1 : ¬ putE S.js (relJ (S.run i) i now) = 0 := by rw [<- HPP.out.2.1, <- HPE.out]; exact hp0
      exact ⟨by unfold relS; rw [if_pos HT.out, if_neg h1, <- HPP.out.2.1], by unfold relEv; rw [if_neg (fun q => h1 q.2)]⟩)
     clear hp0
     go_wp2_with fail
     go_ret
     exact ⟨none, 0, 0, rfl, F1, by rw [HE.out.1]; exact HL3.out, by rw [HE.out.2]; exact World.ownsRow_nil _ _ _ _, HKE3.out, HF1.out.1, HF1.out.2⟩
end Go.Proofs.YtooeeiiiflfckaaGreat
/- package jobs: Begin. -/
namespace Go.Proofs.YtooeeiiiflfckaaGreat
open Go.RowKit
theorem Keeps.trans' {F G : Nat -> Prop} {a b c : World} (h : Keeps F a b) (k : Keeps G b c) (hG : ∀ j, j < a.heap.size -> G j -> F j) : Keeps F a c :=
 ⟨k.os.trans h.os, k.tape.trans h.tape, k.output.trans h.output, Nat.le_trans h.size k.size, fun i hi hf => (k.block i (Nat.lt_of_lt_of_le hi h.size) (fun q => hf (hG i hi q))).trans (h.block i hi hf)⟩
def relN (S : LSt) (now : Int) : Nat -> LSt × List Event
 | 0 => (S, [])
 | k + 1 => (relS (relN S now k).1 k now, (relN S now k).2 ++ relEv (relN S now k).1 k now)
def missEv (S : LSt) (now : Int) : List Event := (lateJ S.js now).map (fun j => evt S 3 j.task j.used)
def begS (S : LSt) (now : Int) : LSt := (relN { S with js := leftJ S.js now } now S.rs.length).1
def begE (S : LSt) (now : Int) : List Event := missEv S now ++ (relN { S with js := leftJ S.js now } now S.rs.length).2
theorem relEv_le (S : LSt) (i : Nat) (now : Int) : (relEv S i now).length <= 1 := by unfold relEv; split <;> simp
theorem relN_len (S : LSt) (now : Int) : ∀ k, (relN S now k).1.rs.length = S.rs.length /\ (relN S now k).1.idx = S.idx /\ (relN S now k).1.lvl = S.lvl /\ (relN S now k).2.length <= k
 | 0 => ⟨rfl, rfl, rfl, by simp [relN]⟩
 | k + 1 => by
  have h := relN_len S now k
  have h2 := relS_len (relN S now k).1 k now
  have h3 := relEv_le (relN S now k).1 k now
  refine ⟨h2.1.trans h.1, h2.2.1.trans h.2.1, h2.2.2.trans h.2.2.1, ?_⟩
  simp only [relN, List.length_append]
  omega
theorem relN_wf {S : LSt} {m : Int} (h : LWf S m) {now : Int} (hc : clockB now = true) : ∀ k, k <= S.rs.length -> LWf (relN S now k).1 (m + k)
 | 0, _ => h.mono (by simp)
 | k + 1, hk => by
  have := relS_wf (relN_wf h hc k (by omega)) (i := k) (by rw [(relN_len S now k).1]; omega) hc
  exact this.mono (by omega)
theorem left_wf {S : LSt} {m : Int} (h : LWf S m) (now : Int) : LWf { S with js := leftJ S.js now } m := by
 refine ⟨h.idx, h.lvl, h.rs, h.len, ?_, fun j hj => ?_⟩
 ·show jobsMay (leftJ S.js now) = true
  unfold leftJ
  rw [if_pos h.js]
  exact jobsMay_filter h.js _
 ·unfold leftJ at hj
  rw [if_pos h.js] at hj
  exact h.jt j (List.mem_filter.1 hj).1
theorem begS_wf {S : LSt} {m : Int} (h : LWf S m) {now : Int} (hc : clockB now = true) : LWf (begS S now) (m + 6) := (relN_wf (left_wf h now) hc S.rs.length (Nat.le_refl _)).mono (by have := h.len; show m + (S.rs.length : Int) <= m + 6; omega)
theorem late_le (S : LSt) (now : Int) (h : jobsMay S.js = true) : (lateJ S.js now).length <= 16 := by
 unfold lateJ
 rw [if_pos h]
 have h1 := List.length_filter_le (lateP now) S.js
 have h2 := ((jobsMay_iff _).1 h).2
 omega
theorem LocAt.evApart {W : World} {b lo : Nat} {ps : List Nat} {F : Nat -> Prop} {S : LSt} (h : LocAt W b lo ps F S) {v : Value} {B n : Nat} {xs : List Value} (ho : W.ownsRow B 45 4 v n xs) : ∀ g, v.ownBlock = some g -> ¬ F g := by
 intro g hg hf
 have ht := own_typed ho hg
 rcases h.ty g hf with h | h | h | h | h
 ·exact typed_ne h ht (by decide) rfl
 ·exact typed_ne h ht (by decide) rfl
 ·exact typed_ne h ht (by decide) rfl
 ·exact typed_ne h ht (by decide) rfl
 ·exact typed_ne h ht (by decide) rfl
set_option maxRecDepth 100000 in
set_option maxHeartbeats 8000000 in
theorem begin_any (b lo : Nat) (ps : List Nat) (F : Nat -> Prop) (S : LSt) (m : Int) (now : Int) (w : World) (h : LocAt w b lo ps F S) (hw : LWf S m) (hm : m < 4000000000000000000) (hc : clockB now = true) :
  Calls Tryz.prog 44 #[.pointer (some ⟨b, 0, none⟩), .int .i64 now] w fun e w' => ∃ a n c, e = .returned (.tuple #[.slice a n c, .int .i64 0]) /\ ∃ F', LocAt w' b lo ps F' (begS S now) /\ EvRow w' w.heap.size (.slice a n c) (begE S now) /\ Keeps F w w' /\ (∀ k, F k -> F' k) /\ (∀ k, F' k -> F k ∨ w.heap.size <= k) := by
 have hlo : lo <= w.heap.size := by have := h.fl b h.fb; have := h.lt h.fb; omega
 obtain ⟨tv, jv, c1, c2, c3, c4, c5⟩ := id h.cell
 obtain ⟨ta, tc, rfl⟩ := own_shape c2
 obtain ⟨ja, jc, hjv⟩ : ∃ ja jc, jv = .slice ja S.js.length jc := by obtain ⟨a, c, e, -⟩ := c4; exact ⟨a, c, e⟩
 obtain ⟨jn, hjn⟩ : ∃ jn, jn = S.js.length := ⟨_, rfl⟩
 rw [<- hjn] at hjv
 subst hjv
 have hb1 : ps.length <= 6 := by rw [h.len]; exact hw.len
 have HL := Lib.hid h
 have HW := Lib.hid hw
 have HJ := Lib.hid c4
 have HKB := Lib.hid c1
 have HC := Lib.hid hc
 have x2 := BlockIs.of c1 2 _ rfl
 have x3 := BlockIs.of c1 3 _ rfl
 have hlt1 := late_le S now hw.js
 clear h hw c1 c2 c3 c4 c5 hjn hc
 go_enter Tryz.func44, Tryz.ntmps44
 go_wp2_with fail
 refine (clock_any _ _).mono ?_
 rintro e w' ⟨rfl, hw'⟩
 subst w'
 rw [show decide (0 <= now /\ now <= 1099511627776) = true from HC.out]
 go_wp2_with fail
 refine (missed_any _ S.js now w HJ.out).mono ?_
 rintro e w1 ⟨va, vb, rfl, hr1, hr2, hap, hb⟩
 have HB1 := Lib.hid hb
 have hL1 := HL.out.keep hb
 have hk1 := keep_at HKB.out hb
 obtain ⟨a1, n1, c1, e1⟩ : ∃ a n c, va = .slice a n c := by obtain ⟨a, c, q⟩ := own_shape hr1; exact ⟨a, _, c, q⟩
 subst e1
 obtain ⟨F1, hF1⟩ : ∃ F1 : Nat -> Prop, F1 = fun k => F k ∨ (Value.slice a1 n1 c1).ownBlock = some k := ⟨_, rfl⟩
 have hL1' : LocAt w1 b lo ps F1 S := hL1.wide (fun k hk => by rw [hF1]; exact .inl hk) (fun k hk => by rw [hF1] at hk; rcases hk with hk | hk; exact hL1.fl k hk; have := (hr1.lt k hk).1; omega) (fun k hk hf => by rw [hF1] at hk; rcases hk with hk | hk; exact absurd hk hf; exact .inr (own_typed hr1 hk))
 have hwl := left_wf HW.out now
 have hJV : JobsV w1 (.slice a1 n1 c1) (leftJ S.js now) := JobRow.jobs hr1 (by have := ((jobsMay_iff _).1 hwl.js).2; simp only at this; omega)
 have hSI : SlIn w1 F1 (.slice a1 n1 c1) 124 := (SlIn.own hr1).mono (fun k hk => by rw [hF1]; exact .inr hk)
 obtain ⟨w2, hw2⟩ : ∃ w2, w2 = w1.setCell ⟨b, 3, none⟩ (.slice a1 n1 c1) := ⟨_, rfl⟩
 have hg2 : w1.grownBy w2 (some b) := by rw [hw2]; exact set_grown _ _ _ _
 have hk2 : w2.heap[b]? = some (.cells #[.int .i64 S.idx, .int .i64 S.lvl, .slice ta ps.length tc, .slice a1 n1 c1] 140 (0, 0)) := by
  rw [hw2]
  have := blk_set hk1 3 (.slice a1 n1 c1)
  simpa using this
 have HL2 := Lib.hid (show LocAt w2 b lo ps F1 { S with js := leftJ S.js now } from hL1'.setJobs hk1 hg2 hk2 hJV hSI)
 have HWL := Lib.hid hwl
 have HKB2 := Lib.hid hk2
 have HF1 := Lib.hid (show (∀ k, F k -> F1 k) /\ ∀ k, F1 k -> F k ∨ w.heap.size <= k from ⟨fun k hk => by rw [hF1]; exact .inl hk, fun k hk => by rw [hF1] at hk; rcases hk with hk | hk; exact .inl hk; exact .inr (hr1.lt k hk).1⟩)
 have HKE2 := Lib.hid (show Keeps F w w2 from (Keeps.of_below hb).trans (Keeps.of_grown hg2 (fun k hk => by injection hk with hk; rw [<- hk]; exact HL.out.fb)))
 have hr2' : w2.ownsRow w.heap.size 124 7 vb (lateJ S.js now).length ((lateJ S.js now).flatMap jobCells) := own_apart hr2 hg2 (fun q hq => by injection hq with hq; rw [<- hq]; exact ⟨_, hk1⟩) (by decide)
 have HLT := Lib.hid (show JobsV w2 vb (lateJ S.js now) from JobRow.jobs hr2' (by omega))
 obtain ⟨late, hlate⟩ : ∃ late, late = lateJ S.js now := ⟨_, rfl⟩
 rw [<- hlate] at HLT hlt1
 have HLA := Lib.hid hlate
 obtain ⟨a3, c3, e3⟩ : ∃ a c, vb = .slice a late.length c := by obtain ⟨a, c, q⟩ := own_shape hr2; rw [<- hlate] at q; exact ⟨a, c, q⟩
 subst e3
 have s3 := BlockIs.of hk1 3 _ rfl
 have f3 := thaw hk1
 have hs2 := HKE2.out.size
 clear hb hL1 hr1 hr2 hap hL1' hJV hSI hg2 hk2 hwl hF1 hr2' hlate hk1
 go_wp2_with fail
 rw [<- hw2]
 clear hw2 s3 f3 x2 x3
 go_loopw [8, 34] (fun o i wr => ∃ k : Nat, k <= late.length /\ i = .int .i64 k /\ Hid (EvRow wr w2.heap.size o ((late.take k).map (fun j => evt S 3 j.task j.used))) /\ Hid (Below w2.heap.size w2 wr)) (fun _ i _ => late.length - (intOf i).toNat)
 case atStart => exact ⟨0, by omega, rfl, Lib.hid (World.ownsRow_nil _ _ _ _), Lib.hid (Below.refl _ _)⟩
 case round =>
  obtain ⟨k, hk, rfl, HO, HB⟩ := hrel
  by_cases hlt : k < late.length
  ·obtain ⟨x, hx⟩ : ∃ x, x = late[k] := ⟨_, rfl⟩
   obtain ⟨g, off, cc, e, hy⟩ : ∃ b off cap, Value.slice a3 late.length c3 = .slice (some ⟨b, off, none⟩) late.length cap /\ JobAt w2 b (off + k * 7) x := by
    obtain ⟨_, _, e, -, -, -, hq⟩ := HLT.out
    obtain ⟨b, off, hb, hq2⟩ := hq (by intro h; rw [h] at hlt; simp at hlt)
    injection e with e1 _ e3
    subst e1; subst e3
    exact ⟨b, off, c3, by rw [hb], by rw [hx]; exact hq2 k hlt⟩
   injection e with e _ e3
   subst e
   subst e3
   obtain ⟨y0, y1, y2, y3, y4, y5, y6⟩ := JobAt.ext (Ext.below HB.out) hy
   unfold IntAt at y0 y1 y2 y3 y4 y5 y6
   obtain ⟨w3, bx, hw_w3, hg_bx, hb_w3, hk_bx, hs_w3⟩ := alloc_all wr (.cells #[.int .i64 x.task, .int .i64 x.seq, .int .i64 x.prio, .int .i64 x.release, .int .i64 x.deadline, .int .i64 x.demand, .int .i64 x.used] 124)
   have HB3 := Lib.hid (bthen HB.out hb_w3)
   have HO3 := Lib.hid (show EvRow w3 w2.heap.size u8 _ from Below.kept HO.out hb_w3)
   have z0 := BlockIs.of hk_bx 0 _ rfl
   have z6 := BlockIs.of hk_bx 6 _ rfl
   have HXE := Lib.hid (show late.take (k + 1) = late.take k ++ [x] by rw [List.take_add_one, List.getElem?_eq_getElem hlt, hx]; rfl)
   have HLN := Lib.hid (show ((late.take k).map (fun j => evt S 3 j.task j.used)).length = k by rw [List.length_map, List.length_take]; omega)
   clear hy hx hb_w3 hs_w3 hk_bx
   go_wp2_with fail
   rw [<- hw_w3]
   refine (event_any b S.idx 3 x.task x.used w3 (Ext.below HB3.out _ _ (BlockIs.of HKB2.out 0 _ rfl))).mono ?_
   rintro e w4 ⟨rfl, hb4⟩
   have HB4 := Lib.hid (bthen HB3.out hb4)
   have HO4 := Lib.hid (show w4.ownsRow w2.heap.size 45 4 u8 k (((late.take k).map (fun j => evt S 3 j.task j.used)).flatMap evCells) by have h := Below.kept HO3.out hb4; rw [HLN.out] at h; exact h)
   have hsz4 := HB4.out.size
   obtain ⟨oa, oc, ho⟩ := own_shape HO4.out
   subst ho
   clear hb4 y0 y1 y2 y3 y4 y5 y6 hw_w3 hg_bx z0 z6
   go_wp2_with (at_builtin; refine append_elem rfl (.tmp 38) (.tmp 45) 39 rfl w2.heap.size 45 _ 4 32 Tryz.underlying39 infoEvent rfl (by decide) (.slice oa k oc) k _ rfl HO4.out (evCells ⟨3, S.idx, x.task, x.used⟩) w4.heap.size rfl rfl rfl rfl (by omega) (by omega) hsz4 ?_)
   intro v5 w5 hown hbel hg
   have HO5 := Lib.hid (show EvRow w5 w2.heap.size v5 ((late.take (k + 1)).map (fun j => evt S 3 j.task j.used)) by
    rw [HXE.out, List.map_append, List.map_take]
    exact EvRow.snoc (by rw [List.length_take, List.length_map]; omega) hown)
   have HB5 := Lib.hid (HB4.out.trans hbel)
   obtain ⟨oa', oc', rfl⟩ := own_shape hown
   clear hown hbel hg
   go_wp2_with fail
   go_roundw
   case rel => exact ⟨k + 1, by omega, by go_num, HO5, HB5⟩
   case measure => simp [intOf]; omega
  ·obtain rfl : k = late.length := by omega
   have x2 := Ext.below HB.out _ _ (BlockIs.of HKB2.out 2 _ rfl)
   have HO0 := Lib.hid (show EvRow wr w2.heap.size u8 (missEv S now) by have h := HO.out; rw [List.take_length] at h; unfold missEv; rw [<- HLA.out]; exact h)
   have HL3 := Lib.hid (HL2.out.keep HB.out)
   have HKE3 := Lib.hid (HKE2.out.trans (Keeps.of_below HB.out))
   have HML := Lib.hid (show (missEv S now).length <= 16 by unfold missEv; rw [List.length_map, <- HLA.out]; exact hlt1)
   have HS2 := Lib.hid hs2
   have HB2W := Lib.hid HB.out.size
   clear HO HB hlt1 hs2
   go_wp2_with fail
   go_loopw [8, 53] (fun o i wv => ∃ k : Nat, k <= ps.length /\ i = .int .i64 k /\ ∃ Fk : Nat -> Prop, Hid (LocAt wv b lo ps Fk (relN { S with js := leftJ S.js now } now k).1) /\ Hid (EvRow wv w2.heap.size o (missEv S now ++ (relN { S with js := leftJ S.js now } now k).2)) /\ Hid (Keeps F w wv) /\ Hid ((∀ q, F q -> Fk q) /\ ∀ q, Fk q -> F q ∨ w.heap.size <= q) /\ Hid (w2.heap.size <= wv.heap.size)) (fun _ i _ => ps.length - (intOf i).toNat)
   case atStart => exact ⟨0, by omega, rfl, F1, HL3, Lib.hid (by simp only [relN, List.append_nil]; exact HO0.out), HKE3, HF1, HB2W⟩
   case round =>
    clear HO0 HL3 HKE3 x2
    obtain ⟨k, hk, rfl, Fk, HLk, HO, HKE, HFk, HSZ⟩ := hrel
    obtain ⟨Sk, hSk⟩ : ∃ Sk, Sk = (relN { S with js := leftJ S.js now } now k).1 := ⟨_, rfl⟩
    obtain ⟨Ek, hEk⟩ : ∃ Ek, Ek = missEv S now ++ (relN { S with js := leftJ S.js now } now k).2 := ⟨_, rfl⟩
    rw [<- hSk] at HLk
    rw [<- hEk] at HO
    have hel : Ek.length <= 22 := by rw [hEk, List.length_append]; have := HML.out; have := (relN_len { S with js := leftJ S.js now } now k).2.2.2; omega
    have HDF := Lib.hid (And.intro hSk hEk)
    by_cases hlt : k < ps.length
    ·have hks : k < S.rs.length := by have := HL.out.len; omega
     have hwk := relN_wf HWL.out HC.out k (by show k <= S.rs.length; omega)
     rw [<- hSk] at hwk
     have hlk : Sk.rs.length = S.rs.length := by rw [hSk]; exact (relN_len _ now k).1
     have HWK := Lib.hid hwk
     have HLK := Lib.hid hlk
     clear hSk hEk hwk hlk
     go_wp2_with fail
     refine (release_any b lo ps Fk Sk (m + k) k now _ HLk.out HWK.out (by omega) (by rw [HLK.out]; exact hks) HC.out).mono ?_
     rintro e w4 ⟨a4, n4, c4, rfl, F4, hl4, he4, hk4, hf4, hf4'⟩
     have hev := relEv_le Sk k now
     have hn4 : n4 = (relEv Sk k now).length := by
      obtain ⟨a, c, q⟩ := own_shape he4
      injection q
     have HO4 := Lib.hid (show EvRow w4 w2.heap.size u8 Ek from Keeps.own HO.out hk4 (HLk.out.evApart HO.out))
     have HKE4 := Lib.hid (HKE.out.trans' hk4 (fun j hj hf => by rcases HFk.out.2 j hf with h | h; exact h; omega))
     have HF4 := Lib.hid (show (∀ q, F q -> F4 q) /\ ∀ q, F4 q -> F q ∨ w.heap.size <= q from ⟨fun q hq => hf4 q (HFk.out.1 q hq), fun q hq => by rcases hf4' q hq with h | h; exact HFk.out.2 q h; right; have := HSZ.out; have := HS2.out; omega⟩)
     have HSZ4 := Lib.hid (Nat.le_trans HSZ.out hk4.size)
     have HSR := Lib.hid (show Src w4 (.slice a4 n4 c4) n4 ((relEv Sk k now).flatMap evCells) by
      have h := flatEvent.src (EvRow.events he4 (by omega))
      rw [<- hn4] at h
      exact h)
     have HL4 := Lib.hid hl4
     have HN4 := Lib.hid hn4
     have hn41 : n4 <= 1 := by omega
     obtain ⟨oa, oc, ho⟩ := own_shape HO4.out
     obtain ⟨nk, hnk⟩ : ∃ nk, nk = Ek.length := ⟨_, rfl⟩
     have HNK := Lib.hid hnk
     rw [<- hnk] at ho
     have HOW := Lib.hid (show w4.ownsRow w2.heap.size 45 4 u8 nk (Ek.flatMap evCells) by rw [hnk]; exact HO4.out)
     have hnk2 : nk <= 22 := by omega
     subst ho
     clear hl4 he4 hk4 hf4 hf4' hn4 hnk hel hev
     go_wp2_with (at_builtin; refine wpList_onto _ rfl (.tmp 56) (.tmp 60) 39 rfl w2.heap.size 45 _ 4 32 Tryz.underlying39 infoEvent rfl (by decide) (.slice oa nk oc) nk _ rfl HOW.out n4 _ HSR.out (by rw [flat_len _ _ flatEvent.len, HN4.out]) (fun u hu => flat_one flatEvent _ u hu) (by simp only [maxLen]; omega) (by omega) HSZ4.out ?_)
     intro v5 w5 hown hg
     have HL5 := Lib.hid (show LocAt w5 b lo ps F4 (relN { S with js := leftJ S.js now } now (k + 1)).1 by
      simp only [relN]
      rw [<- HDF.out.1]
      exact HL4.out.far (fun q hq => hg.block q (HL4.out.lt hq) (fun e => HL4.out.evApart HOW.out q e.symm hq)))
     have HO5 := Lib.hid (show EvRow w5 w2.heap.size v5 (missEv S now ++ (relN { S with js := leftJ S.js now } now (k + 1)).2) by
      simp only [relN]
      rw [<- List.append_assoc, <- HDF.out.1, <- HDF.out.2]
      unfold EvRow
      rw [List.length_append, List.flatMap_append, <- HN4.out, <- HNK.out]
      exact hown)
     have HKE5 := Lib.hid (HKE4.out.trans' (Keeps.of_grown (F := fun q => (Value.slice oa nk oc).ownBlock = some q) hg (fun q hq => hq)) (fun j hj hf => by have := (HOW.out.lt j hf).1; have := HS2.out; omega))
     have HSZ5 := Lib.hid (Nat.le_trans HSZ4.out hg.size)
     obtain ⟨oa', oc', rfl⟩ := own_shape hown
     clear hown hg
     go_wp2_with fail
     go_roundw
     case rel => exact ⟨k + 1, by omega, by go_num, F4, HL5, HO5, HKE5, HF4, HSZ5⟩
     case measure => simp [intOf]; omega
    ·obtain rfl : k = ps.length := by omega
     obtain ⟨oa, oc, ho⟩ := own_shape HO.out
     subst ho
     have HLN := Lib.hid HL.out.len
     clear hSk hEk
     go_wp2_with fail
     go_ret2
     refine ⟨oa, _, oc, rfl, Fk, ?_, ?_, HKE.out, HFk.out.1, HFk.out.2⟩
     ·have h := HLk.out
      rw [HDF.out.1, HLN.out] at h
      exact h
     ·have h := own_lower HO.out HS2.out
      unfold begE
      rw [<- HLN.out, <- HDF.out.2]
      exact h
end Go.Proofs.YtooeeiiiflfckaaGreat
/- package jobs: Pick (printed by genloc4.py). -/
namespace Go.Proofs.YtooeeiiiflfckaaGreat
open Go.RowKit
def TRun.more (r : TRun) (d : Int) : TRun := { r with s := ⟨r.s.last, r.s.picks ++ [d]⟩ }
def pickErr (S : LSt) (i d now : Int) : Int := if i < 0 ∨ (S.rs.length : Int) <= i ∨ clockB now = false then 1400 else pickE (S.run i.toNat).t (S.run i.toNat).s d
def pickSt (S : LSt) (i d now : Int) : LSt := if pickErr S i d now = 0 then S.setR i.toNat ((S.run i.toNat).more d) else S
def pickEv (S : LSt) (i d now : Int) : List Event :=
 if pickErr S i d now = 0 /\ lateB (S.run i.toNat).t ((S.run i.toNat).more d).s now = true then [evt S 2 i ((S.run i.toNat).s.last + (S.run i.toNat).t.period - now)] else []
theorem more_may {r : TRun} {d : Int} (h : pickE r.t r.s d = 0) : pairMay (r.more d).t (r.more d).s = true := by
 unfold pickE at h
 split at h
 ·cases h
 ·rename_i h1
  split at h
  ·cases h
  ·rename_i h2
   simp only [Bool.and_eq_false_iff, not_or, Bool.not_eq_false] at h1
   obtain ⟨h1, h3⟩ := h1
   obtain ⟨h0, h01, h02, h03, h4, -⟩ := pairMay_task h1
   unfold pairMay TRun.more
   simp only [Bool.and_eq_true, decide_eq_true_eq, Bool.not_eq_true', List.any_eq_false, List.length_append, List.length_singleton, List.mem_append, List.mem_singleton]
   refine ⟨⟨⟨⟨h0, by omega⟩, by omega⟩, by omega⟩, fun x hx => ?_⟩
   rcases hx with hx | rfl
   ·rw [h4 x hx]; simp
   ·rw [h3]; simp
theorem pickSt_wf {S : LSt} {m : Int} (h : LWf S m) (i d now : Int) : LWf (pickSt S i d now) m := by
 unfold pickSt
 split
 ·rename_i h1
  unfold pickErr at h1
  split at h1
  ·cases h1
  ·rename_i h2
   simp only [not_or, Int.not_lt, Int.not_le, Bool.not_eq_false] at h2
   have hr := h.rs _ (LSt.run_mem (S := S) (i := i.toNat) (by omega))
   exact h.set _ ⟨more_may h1, hr.2.1, hr.2.2⟩
 ·exact h
theorem pickSt_len (S : LSt) (i d now : Int) : (pickSt S i d now).rs.length = S.rs.length /\ (pickSt S i d now).idx = S.idx /\ (pickSt S i d now).lvl = S.lvl /\ (pickSt S i d now).js = S.js := by
 unfold pickSt
 split <;> simp [LSt.setR]
set_option maxRecDepth 100000 in
set_option maxHeartbeats 4000000 in
theorem pickNo_any (b lo : Nat) (ps : List Nat) (F : Nat -> Prop) (S : LSt) (i d now : Int) (w : World) (h : LocAt w b lo ps F S) (hno : i < 0 ∨ (S.rs.length : Int) <= i ∨ clockB now = false) :
  Calls Tryz.prog 70 #[.pointer (some ⟨b, 0, none⟩), .int .i64 i, .int .i64 d, .int .i64 now] w fun e w' => e = .returned (.tuple #[.slice none 0 0, .int .i64 1400]) /\ w' = w := by
 obtain ⟨tv, jv, c1, c2, -⟩ := h.cell
 obtain ⟨ta, tc, rfl⟩ := own_shape c2
 rw [<- h.len] at hno
 have x2 := BlockIs.of c1 2 _ rfl
 clear h c1 c2
 by_cases d1 : i < 0
 ·clear hno
  go_enter Tryz.func70, Tryz.ntmps70
  go_wp2_with fail
  go_ret2
  exact ⟨rfl, rfl⟩
 ·by_cases d2 : (ps.length : Int) <= i
  ·clear hno
   go_enter Tryz.func70, Tryz.ntmps70
   go_wp2_with fail
   go_ret2
   exact ⟨rfl, rfl⟩
  ·have HC := Lib.hid (show clockB now = false from (hno.resolve_left d1).resolve_left d2)
   clear hno
   go_enter Tryz.func70, Tryz.ntmps70
   go_wp2_with fail
   refine (clock_any _ _).mono ?_
   rintro e w' ⟨rfl, hw'⟩
   subst w'
   rw [show decide (0 <= now /\ now <= 1099511627776) = false from HC.out]
   go_wp2_with fail
   go_ret2
   exact ⟨rfl, rfl⟩
def PkV (p : Nat) (r : TRun) (pv : Value) (dm : Int) (a : Nat) (v : Value) : Prop := match a with
 | 0 => v = .pointer (some ⟨p, 0, none⟩)
 | 1 => v = .pointer (some ⟨p, 0, none⟩)
 | 2 => v = .pointer (some ⟨p, 0, none⟩)
 | 3 => v = .agg #[.int .i64 r.t.kind, .int .i64 r.t.period, .int .i64 r.t.deadline, .int .i64 r.t.clow, .int .i64 r.t.chigh, .int .i64 r.t.prio]
 | 4 => v = .pointer (some ⟨p, 0, none⟩)
 | 5 => v = .pointer (some ⟨p, 0, none⟩)
 | 6 => v = .pointer (some ⟨p, 6, none⟩)
 | 7 => v = .agg #[.int .i64 r.s.last, pv]
 | 8 => v = .int .i64 dm
 | _ => True
set_option maxRecDepth 100000 in
set_option maxHeartbeats 8000000 in
theorem pickYes_any (b lo : Nat) (ps : List Nat) (F : Nat -> Prop) (S : LSt) (m : Int) (i : Nat) (dm now : Int) (w : World) (h : LocAt w b lo ps F S) (hw : LWf S m) (hi : i < S.rs.length) (hc : clockB now = true) :
  Calls Tryz.prog 70 #[.pointer (some ⟨b, 0, none⟩), .int .i64 i, .int .i64 dm, .int .i64 now] w fun e w' => ∃ a n c, e = .returned (.tuple #[.slice a n c, .int .i64 (pickErr S i dm now)]) /\ ∃ F', LocAt w' b lo ps F' (pickSt S i dm now) /\ EvRow w' w.heap.size (.slice a n c) (pickEv S i dm now) /\ Keeps F w w' /\ (∀ k, F k -> F' k) /\ (∀ k, F' k -> F k ∨ w.heap.size <= k) := by
 have hip : i < ps.length := by rw [h.len]; exact hi
 have hlo : lo <= w.heap.size := by have := h.fl b h.fb; have := h.lt h.fb; omega
 obtain ⟨tg, tc, jv, c1, c2, c4, c5⟩ := h.task (by omega)
 obtain ⟨p, hp⟩ : ∃ p, p = ps[i] := ⟨_, rfl⟩
 obtain ⟨r, hr⟩ : ∃ r, r = S.run i := ⟨_, rfl⟩
 have hrw := hw.rs _ (LSt.run_mem hi)
 rw [<- hr] at hrw
 obtain ⟨pv, hk, hv, hs⟩ := h.runs i hip hi
 rw [<- LSt.run_at hi, <- hr, <- hp] at hk
 rw [<- LSt.run_at hi, <- hr] at hv
 unfold runCells at hk
 have HKP := Lib.hid hk
 have HPV := Lib.hid hv
 have HL := Lib.hid h
 have x2 := BlockIs.of c1 2 _ rfl
 have xi := c2 i hip
 rw [<- hp] at xi
 obtain ⟨pe, hpe⟩ : ∃ pe, pe = pickE r.t r.s dm := ⟨_, rfl⟩
 have HRI := Lib.hid hpe
 have HPP := Lib.hid (And.intro hp (And.intro hr (And.intro hip hi)))
 have HPE := Lib.hid (show pickErr S i dm now = pe by
  unfold pickErr
  rw [if_neg (by rw [hc]; simp; omega), hpe, hr]
  rfl)
 have HRW := Lib.hid hrw
 have HC := Lib.hid hc
 have HJ := Lib.hid (And.intro c1 (And.intro c4 c5))
 have d0 : ¬ (i : Int) < 0 := by omega
 have d1 : (i : Int) < (ps.length : Int) := by omega
 have d2 : ¬ (ps.length : Int) <= (i : Int) := by omega
 have hpd : 1 <= r.t.period /\ r.t.period <= 1024 := by
  have h1 := (pairMay_task hrw.1).1
  unfold taskMay at h1
  simp only [decide_eq_true_eq] at h1
  omega
 have hlst : -1 <= r.s.last /\ r.s.last <= 1099511627776 := by obtain ⟨-, q1, q2, -⟩ := pairMay_task hrw.1; exact ⟨q1, q2⟩
 have hnow : 0 <= now /\ now <= 1099511627776 := by unfold clockB at hc; exact of_decide_eq_true hc
 clear h hw hk hv hs c1 c2 c4 c5 hp hr hpe hrw hc
 go_enter Tryz.func70, Tryz.ntmps70
 go_wp2_with fail
 refine (clock_any _ _).mono ?_
 rintro e w' ⟨rfl, hw'⟩
 subst w'
 rw [show decide (0 <= now /\ now <= 1099511627776) = true from HC.out]
 go_wp2_with fail
 refine region_inv0 rfl (by kernel_rfl) (CInv w (PkV p r pv dm) 9 (fun v W => ∃ l1 a1 n1 c1, v = .tuple #[.agg #[.int .i64 l1, .slice a1 n1 c1], .int .i64 pe] /\ (pe = 0 -> l1 = r.s.last /\ IntRow W w.heap.size (.slice a1 n1 c1) (r.s.picks ++ [dm]))) [(10, fun v => v), (11, tupAt 0), (12, tupAt 1), (15, tupAt 1)] [⟨13, 14, 143, #[.int .i64 0, .slice none 0 0], (fun v => aggOf (tupAt 0 v))⟩]) (fun vs h0 => ⟨(fun i h => by cases h), below_drew (Below.refl _ _), (fun h => by cases h), (fun _ _ h => by cases h), (fun _ _ h => by cases h), (fun _ _ _ _ _ h => by cases h)⟩) ?_ ?_
 ·simp (config := { maxSteps := 4000000 }) only [List.map, putAll, Act.put, InvE, List.setIfInBounds_toArray, List.set_cons_succ, List.set_cons_zero, Nat.reduceAdd]
  refine ⟨?_, ?_, ?_, ?_, ?_, ?_, ?_, ?_, ?_, ?_, ?_, ?_, ?_, ?_, ?_, ?_, trivial⟩
  all_goals
   intro L vs W hI hi hn hcl K hK
   rw [if_pos (by simp [Region.wanted])]
  ·have HK := Lib.hid (fun (v : Value) (h : v = .pointer (some ⟨p, 0, none⟩)) => hK v W (hI.pure (by decide) (by simp) h (by simp)))
   clear hK hI hn hcl hi
   go_simp
   exact HK.out _ rfl
  ·have r0 : vs 0 = _ := hI.pv 0 (hn 0 rfl)
   simp only [r0] at hK |-
   have HK := Lib.hid (fun (v : Value) (h : v = .pointer (some ⟨p, 0, none⟩)) => hK v W (hI.pure (by decide) (by simp) h (by simp)))
   clear hK hI hn hcl hi
   go_simp
   exact HK.out _ rfl
  ·have r1 : vs 1 = _ := hI.pv 1 (hn 1 rfl)
   simp only [r1] at hK |-
   have HK := Lib.hid (fun (v : Value) (h : v = .pointer (some ⟨p, 0, none⟩)) => hK v W (hI.pure (by decide) (by simp) h (by simp)))
   clear hK hI hn hcl hi
   go_simp
   exact HK.out _ rfl
  ·have r2 : vs 2 = _ := hI.pv 2 (hn 2 rfl)
   have hk := keep_at HKP.out hI.below
   have y0 := BlockIs.of hk 0 _ rfl
   have y1 := BlockIs.of hk 1 _ rfl
   have y2 := BlockIs.of hk 2 _ rfl
   have y3 := BlockIs.of hk 3 _ rfl
   have y4 := BlockIs.of hk 4 _ rfl
   have y5 := BlockIs.of hk 5 _ rfl
   clear hk
   simp only [r2] at hK |-
   have HK := Lib.hid (fun (v : Value) (h : v = .agg #[.int .i64 r.t.kind, .int .i64 r.t.period, .int .i64 r.t.deadline, .int .i64 r.t.clow, .int .i64 r.t.chigh, .int .i64 r.t.prio]) => hK v W (hI.pure (by decide) (by simp) h (by simp)))
   clear hK hI hn hcl hi
   go_simp
   exact HK.out _ rfl
  ·have HK := Lib.hid (fun (v : Value) (h : v = .pointer (some ⟨p, 0, none⟩)) => hK v W (hI.pure (by decide) (by simp) h (by simp)))
   clear hK hI hn hcl hi
   go_simp
   exact HK.out _ rfl
  ·have r4 : vs 4 = _ := hI.pv 4 (hn 4 rfl)
   simp only [r4] at hK |-
   have HK := Lib.hid (fun (v : Value) (h : v = .pointer (some ⟨p, 0, none⟩)) => hK v W (hI.pure (by decide) (by simp) h (by simp)))
   clear hK hI hn hcl hi
   go_simp
   exact HK.out _ rfl
  ·have r5 : vs 5 = _ := hI.pv 5 (hn 5 rfl)
   simp only [r5] at hK |-
   have HK := Lib.hid (fun (v : Value) (h : v = .pointer (some ⟨p, 6, none⟩)) => hK v W (hI.pure (by decide) (by simp) h (by simp)))
   clear hK hI hn hcl hi
   go_simp
   exact HK.out _ rfl
  ·have r6 : vs 6 = _ := hI.pv 6 (hn 6 rfl)
   have hk := keep_at HKP.out hI.below
   have y6 := BlockIs.of hk 6 _ rfl
   have y7 := BlockIs.of hk 7 _ rfl
   clear hk
   simp only [r6] at hK |-
   have HK := Lib.hid (fun (v : Value) (h : v = .agg #[.int .i64 r.s.last, pv]) => hK v W (hI.pure (by decide) (by simp) h (by simp)))
   clear hK hI hn hcl hi
   go_simp
   exact HK.out _ rfl
  ·have HK := Lib.hid (fun (v : Value) (h : v = .int .i64 dm) => hK v W (hI.pure (by decide) (by simp) h (by simp)))
   clear hK hI hn hcl hi
   go_simp
   exact HK.out _ rfl
  ·have r3 : vs 3 = _ := hI.pv 3 (hn 3 rfl)
   have r7 : vs 7 = _ := hI.pv 7 (hn 7 rfl)
   have r8 : vs 8 = _ := hI.pv 8 (hn 8 rfl)
   simp only [r3, r7, r8] at hK |-
   have hS0 : L 14 = false := by
    cases h : L 14
    ·rfl
    ·exact absurd (hcl 10 _ rfl (hcl 11 _ rfl (hcl 14 _ rfl h 11 rfl) 10 rfl) 9 rfl) (Bool.eq_false_iff.1 hi)
   have hD10 : L 10 = false := by
    cases h : L 10
    ·rfl
    ·exact absurd (hcl 10 _ rfl h 9 rfl) (Bool.eq_false_iff.1 hi)
   have hD11 : L 11 = false := by
    cases h : L 11
    ·rfl
    ·exact absurd (hcl 10 _ rfl (hcl 11 _ rfl h 10 rfl) 9 rfl) (Bool.eq_false_iff.1 hi)
   have hD12 : L 12 = false := by
    cases h : L 12
    ·rfl
    ·exact absurd (hcl 10 _ rfl (hcl 12 _ rfl h 10 rfl) 9 rfl) (Bool.eq_false_iff.1 hi)
   have hD15 : L 15 = false := by
    cases h : L 15
    ·rfl
    ·exact absurd (hcl 10 _ rfl (hcl 12 _ rfl (hcl 15 _ rfl h 12 rfl) 10 rfl) 9 rfl) (Bool.eq_false_iff.1 hi)
   have HX := Lib.hid (And.intro (show ∀ a ∈ ([⟨13, 14, 143, #[.int .i64 0, .slice none 0 0], (fun v => aggOf (tupAt 0 v))⟩] : List OwnB), a.iA ≠ 9 /\ a.iS ≠ 9 /\ L a.iS = false by simp [hS0]) (show ∀ d ∈ ([(10, fun v => v), (11, tupAt 0), (12, tupAt 1), (15, tupAt 1)] : List (Nat × (Value -> Value))), d.1 ≠ 9 /\ L d.1 = false by simp [hD10, hD11, hD12, hD15]))
   have HK := Lib.hid hK
   have HI := Lib.hid hI
   clear hK hI hn hcl hi hS0 hD10 hD11 hD12 hD15
   go_simp
   go_at_call 105
   refine (taskPick_any r.t r.s.last pv r.s.picks dm W (HPV.out.ext (Ext.below HI.out.below))).mono ?_
   rintro e w' ⟨l', a', n', c', rfl, hf, hb⟩
   exact HK.out _ w' (HI.out.call hb ⟨l', a', n', c', by rw [HRI.out], fun h => by obtain ⟨h1, h3⟩ := hf (HRI.out ▸ h); exact ⟨h1, own_lower h3 HI.out.below.size⟩⟩ trivial HX.out.1 HX.out.2)
  ·have hC : L 9 = true := (hn 9 rfl)
   obtain ⟨l1, a1, n1, c1, eC, hF⟩ := hI.res hC
   simp only [eC] at hK |-
   have HK := Lib.hid (fun (v : Value) (h : v = .tuple #[.agg #[.int .i64 l1, .slice a1 n1 c1], .int .i64 pe]) => hK v W (hI.pure (by decide) (by simp) trivial (by simp only [List.mem_cons, List.not_mem_nil, or_false, forall_eq_or_imp, forall_eq]; simp (config := { decide := true }) only [false_implies, forall_const, true_and, and_true, true_implies]; rw [eC]; exact h)))
   clear hK hI hn hcl hi eC hC
   go_simp
   exact HK.out _ rfl
  ·have hC : L 9 = true := (hcl 10 _ rfl (hn 10 rfl) 9 rfl)
   obtain ⟨l1, a1, n1, c1, eC, hF⟩ := hI.res hC
   have r10 : vs 10 = .tuple #[.agg #[.int .i64 l1, .slice a1 n1 c1], .int .i64 pe] := (hI.dep (10, fun v => v) (by simp) (hn 10 rfl)).trans (by first | (rw [eC]; done) | (rw [eC]; rfl))
   simp only [r10] at hK |-
   have HK := Lib.hid (fun (v : Value) (h : v = .agg #[.int .i64 l1, .slice a1 n1 c1]) => hK v W (hI.pure (by decide) (by simp) trivial (by simp only [List.mem_cons, List.not_mem_nil, or_false, forall_eq_or_imp, forall_eq]; simp (config := { decide := true }) only [false_implies, forall_const, true_and, and_true, true_implies]; rw [eC]; exact h)))
   clear hK hI hn hcl hi eC hC
   go_simp
   exact HK.out _ rfl
  ·have hC : L 9 = true := (hcl 10 _ rfl (hn 10 rfl) 9 rfl)
   obtain ⟨l1, a1, n1, c1, eC, hF⟩ := hI.res hC
   have r10 : vs 10 = .tuple #[.agg #[.int .i64 l1, .slice a1 n1 c1], .int .i64 pe] := (hI.dep (10, fun v => v) (by simp) (hn 10 rfl)).trans (by first | (rw [eC]; done) | (rw [eC]; rfl))
   simp only [r10] at hK |-
   have HK := Lib.hid (fun (v : Value) (h : v = .int .i64 pe) => hK v W (hI.pure (by decide) (by simp) trivial (by simp only [List.mem_cons, List.not_mem_nil, or_false, forall_eq_or_imp, forall_eq]; simp (config := { decide := true }) only [false_implies, forall_const, true_and, and_true, true_implies]; rw [eC]; exact h)))
   clear hK hI hn hcl hi eC hC
   go_simp
   exact HK.out _ rfl
  ·have hS : L 14 = false := by
    cases h : L 14
    ·rfl
    ·exact absurd (hcl 14 _ rfl h 13 rfl) (Bool.eq_false_iff.1 hi)
   have HK := Lib.hid hK
   have HI := Lib.hid hI
   have HS := Lib.hid hS
   clear hK hI hn hcl hi hS
   go_simp
   exact HK.out _ _ (HI.out.alloc ⟨13, 14, 143, #[.int .i64 0, .slice none 0 0], (fun v => aggOf (tupAt 0 v))⟩ (by simp) (by decide) HS.out (by simp) (by decide) (by simp) trivial (fun v W W' h hb => by obtain ⟨l1, a1, n1, c1, e, hf⟩ := h; exact ⟨l1, a1, n1, c1, e, fun q => ⟨(hf q).1, Below.kept (hf q).2 hb⟩⟩))
  ·have hC : L 9 = true := (hcl 10 _ rfl (hcl 11 _ rfl (hn 11 rfl) 10 rfl) 9 rfl)
   obtain ⟨l1, a1, n1, c1, eC, hF⟩ := hI.res hC
   have r11 : vs 11 = .agg #[.int .i64 l1, .slice a1 n1 c1] := (hI.dep (11, tupAt 0) (by simp) (hn 11 rfl)).trans (by first | (rw [eC]; done) | (rw [eC]; rfl))
   obtain ⟨g, eg, hgw, hkg⟩ := hI.new ⟨13, 14, 143, #[.int .i64 0, .slice none 0 0], (fun v => aggOf (tupAt 0 v))⟩ (by simp) (hn 13 rfl)
   have eg : vs 13 = .pointer (some ⟨g, 0, none⟩) := eg
   have hkg : W.heap[g]? = some (.cells #[.int .i64 0, .slice none 0 0] 143 (0, 0)) := by rw [hkg]; simp only [hi, Bool.false_eq_true, if_false]
   have o0 := BlockIs.of hkg 0 _ rfl
   have o1 := BlockIs.of hkg 1 _ rfl
   have fz := thaw hkg
   simp only [r11, eg] at hK |-
   have HL := Lib.hid (show L 13 = true from hn 13 rfl)
   have HK := Lib.hid hK
   have HI := Lib.hid hI
   have HEC := Lib.hid eC
   have HKG := Lib.hid hkg
   have HEG := Lib.hid eg
   clear hK hI hn hcl hi hC eC hkg eg
   go_simp
   exact HK.out _ _ (HI.out.store ⟨13, 14, 143, #[.int .i64 0, .slice none 0 0], (fun v => aggOf (tupAt 0 v))⟩ (by simp) (v := undef) (W' := put2 W g (.int .i64 l1) (.slice a1 n1 c1)) HEG.out HL.out (put2_grown W g (.int .i64 l1) (.slice a1 n1 c1)) (by rw [HEC.out]; exact put2_at HKG.out (.int .i64 l1) (.slice a1 n1 c1)) (by decide) (by simp) (by simp) trivial (fun v W W' g h hg ht => by obtain ⟨l1, a1, n1, c1, e, hf⟩ := h; exact ⟨l1, a1, n1, c1, e, fun q => ⟨(hf q).1, own_apart (hf q).2 hg (fun g' h' => by injection h' with h'; rw [<- h']; exact ht) (by decide)⟩⟩))
  ·have hC : L 9 = true := (hcl 10 _ rfl (hcl 12 _ rfl (hn 12 rfl) 10 rfl) 9 rfl)
   obtain ⟨l1, a1, n1, c1, eC, hF⟩ := hI.res hC
   have r12 : vs 12 = .int .i64 pe := (hI.dep (12, tupAt 1) (by simp) (hn 12 rfl)).trans (by first | (rw [eC]; done) | (rw [eC]; rfl))
   simp only [r12] at hK |-
   have HK := Lib.hid (fun (v : Value) (h : v = .int .i64 pe) => hK v W (hI.pure (by decide) (by simp) trivial (by simp only [List.mem_cons, List.not_mem_nil, or_false, forall_eq_or_imp, forall_eq]; simp (config := { decide := true }) only [false_implies, forall_const, true_and, and_true, true_implies]; rw [eC]; exact h)))
   clear hK hI hn hcl hi eC hC
   go_simp
   exact HK.out _ rfl
 ·intro vs W hI
  simp only [List.map, putAll, Act.put, List.setIfInBounds_toArray, List.set_cons_succ, List.set_cons_zero, Nat.reduceAdd]
  have HBW := Lib.hid hI.below
  obtain ⟨l1, a1, n1, c1, eC, hF⟩ := hI.res (by simp)
  have r0 : vs 0 = _ := hI.pv 0 (by simp)
  have r1 : vs 1 = _ := hI.pv 1 (by simp)
  have r2 : vs 2 = _ := hI.pv 2 (by simp)
  have r3 : vs 3 = _ := hI.pv 3 (by simp)
  have r4 : vs 4 = _ := hI.pv 4 (by simp)
  have r5 : vs 5 = _ := hI.pv 5 (by simp)
  have r6 : vs 6 = _ := hI.pv 6 (by simp)
  have r7 : vs 7 = _ := hI.pv 7 (by simp)
  have r8 : vs 8 = _ := hI.pv 8 (by simp)
  have r10 : vs 10 = .tuple #[.agg #[.int .i64 l1, .slice a1 n1 c1], .int .i64 pe] := (hI.dep (10, fun v => v) (by simp) (by simp)).trans (by first | (rw [eC]; done) | (rw [eC]; rfl))
  have r11 : vs 11 = .agg #[.int .i64 l1, .slice a1 n1 c1] := (hI.dep (11, tupAt 0) (by simp) (by simp)).trans (by first | (rw [eC]; done) | (rw [eC]; rfl))
  have r12 : vs 12 = .int .i64 pe := (hI.dep (12, tupAt 1) (by simp) (by simp)).trans (by first | (rw [eC]; done) | (rw [eC]; rfl))
  have r15 : vs 15 = .int .i64 pe := (hI.dep (15, tupAt 1) (by simp) (by simp)).trans (by first | (rw [eC]; done) | (rw [eC]; rfl))
  obtain ⟨g0, r13, hgw0, hkg0⟩ := hI.new ⟨13, 14, 143, #[.int .i64 0, .slice none 0 0], (fun v => aggOf (tupAt 0 v))⟩ (by simp) (by simp)
  have r13 : vs 13 = .pointer (some ⟨g0, 0, none⟩) := r13
  have hkg0 : W.heap[g0]? = some (.cells #[.int .i64 l1, .slice a1 n1 c1] 143 (0, 0)) := by rw [hkg0, eC]; rfl
  simp only [eC, r0, r1, r2, r3, r4, r5, r6, r7, r8, r10, r11, r12, r15, r13]
  clear hI eC r0 r1 r2 r3 r4 r5 r6 r7 r8 r10 r11 r12 r15 r13
  obtain ⟨w1, hw1⟩ : ∃ w1, w1 = W := ⟨_, rfl⟩
  rw [<- hw1] at HBW hkg0 hF |-
  have HL1 := Lib.hid (HL.out.keep HBW.out)
  clear hw1
  by_cases hp0 : pe = 0
  rotate_left
  ·have hpe0 : (pe == 0) = false := by simpa using hp0
   have HE := Lib.hid (show pickSt S i dm now = S /\ pickEv S i dm now = [] by
    have h1 : ¬ pickErr S i dm now = 0 := by rw [HPE.out]; exact hp0
    exact ⟨by unfold pickSt; rw [if_neg h1], by unfold pickEv; rw [if_neg (fun q => h1 q.1)]⟩)
   clear hp0
   go_wp2_with fail
   go_ret2
   exact ⟨none, 0, 0, by rw [HPE.out]; rfl, F, by rw [HE.out.1]; exact HL1.out, by rw [HE.out.2]; exact World.ownsRow_nil _ _ _ _, Keeps.of_below HBW.out, fun k hk => hk, fun k hk => .inl hk⟩
  ·subst hp0
   obtain ⟨e1, hrow⟩ := hF rfl
   subst e1
   have HKP1 := Lib.hid (keep_at HKP.out HBW.out)
   have HKB1 := Lib.hid (keep_at HJ.out.1 HBW.out)
   obtain ⟨F1, hF1⟩ : ∃ F1 : Nat -> Prop, F1 = fun k => F k ∨ (Value.slice a1 n1 c1).ownBlock = some k := ⟨_, rfl⟩
   have hL1 : LocAt w1 b lo ps F1 S := HL1.out.wide (fun k hk => by rw [hF1]; exact .inl hk) (fun k hk => by rw [hF1] at hk; rcases hk with hk | hk; exact HL1.out.fl k hk; have := (hrow.lt k hk).1; omega) (fun k hk hf => by rw [hF1] at hk; rcases hk with hk | hk; exact absurd hk hf; exact .inl (own_typed hrow hk))
   have hmm := more_may (show pickE r.t r.s dm = 0 from HRI.out.symm)
   have hpw := (pairMay_task hmm).2.2.2.1
   have hIR : IntsV w1 (.slice a1 n1 c1) (r.more dm).s.picks := IntRow.ints hrow (by show (r.more dm).s.picks.length * 8 <= _; omega)
   have hSI : SlIn w1 F1 (.slice a1 n1 c1) 3 := (SlIn.own hrow).mono (fun k hk => by rw [hF1]; exact .inr hk)
   obtain ⟨w2, hw2⟩ : ∃ w2, w2 = (w1.setCell ⟨p, 6, none⟩ (.int .i64 r.s.last)).setCell ⟨p, 7, none⟩ (.slice a1 n1 c1) := ⟨_, rfl⟩
   have hg2 : w1.grownBy w2 (some p) := by rw [hw2]; exact grown_trans (set_grown _ _ _ _) (set_grown _ _ _ _)
   have hk2 : w2.heap[p]? = some (.cells (runCells (r.more dm) (.slice a1 n1 c1)) 145 (0, 0)) := by
    rw [hw2]
    have := blk_set (blk_set HKP1.out 6 (.int .i64 r.s.last)) 7 (.slice a1 n1 c1)
    simpa [runCells, TRun.more] using this
   have HL2 := Lib.hid (show LocAt w2 b lo ps F1 (pickSt S i dm now) from by
    have h := hL1.setRun hip HPP.out.2.2.2 (by rw [<- HPP.out.1]; exact hg2) (by rw [<- HPP.out.1]; exact hk2) hIR hSI
    have e : pickSt S i dm now = S.setR i (r.more dm) := by unfold pickSt; rw [if_pos (HPE.out), HPP.out.2.1]; rfl
    rw [e]
    exact h)
   have HKP2 := Lib.hid hk2
   unfold runCells at HKP2
   have HPV2 := Lib.hid (show IntsV w2 (.slice a1 n1 c1) (r.more dm).s.picks from IntsV.far hIR (fun a n cap e => by
    have ht := (hSI a n cap e).2
    exact ht.grown hg2 (typed_ne ht ⟨_, HKP1.out⟩ (by decide))))
   have HKE2 := Lib.hid (show Keeps F w w2 from (Keeps.of_below HBW.out).trans (Keeps.of_grown hg2 (fun k hk => by injection hk with hk; rw [<- hk, HPP.out.1]; exact HL.out.fp _ (List.getElem_mem hip))))
   have HF1 := Lib.hid (show (∀ k, F k -> F1 k) /\ ∀ k, F1 k -> F k ∨ w.heap.size <= k from ⟨fun k hk => by rw [hF1]; exact .inl hk, fun k hk => by rw [hF1] at hk; rcases hk with hk | hk; exact .inl hk; exact .inr (hrow.lt k hk).1⟩)
   have o6 := BlockIs.of HKP1.out 6 _ rfl
   have o7 := BlockIs.of HKP1.out 7 _ rfl
   have fp := thaw HKP1.out
   have q0 := BlockIs.of hkg0 0 _ rfl
   have q1 := BlockIs.of hkg0 1 _ rfl
   clear hF hrow hF1 hL1 hIR hSI hg2 hk2 hkg0 hmm hpw
   go_wp2_with fail
   rw [<- hw2]
   clear hw2 o6 o7 fp q0 q1
   refine region_tail 9 (by kernel_rfl) (by kernel_rfl) ?_
   intro wy hy hby
   have hk := keep_at HKP2.out hby
   have y0 := BlockIs.of hk 0 _ rfl
   have y1 := BlockIs.of hk 1 _ rfl
   have y2 := BlockIs.of hk 2 _ rfl
   have y3 := BlockIs.of hk 3 _ rfl
   have y4 := BlockIs.of hk 4 _ rfl
   have y5 := BlockIs.of hk 5 _ rfl
   have y6 := BlockIs.of hk 6 _ rfl
   have y7 := BlockIs.of hk 7 _ rfl
   have HPVY := Lib.hid (HPV2.out.ext (Ext.below hby))
   have HBY := Lib.hid hby
   simp only [TRun.more] at y0 y1 y2 y3 y4 y5 y6
   clear hy hby hk
   simp only [List.take_succ_cons, List.take_zero, List.drop_succ_cons, List.drop_zero]
   repeat still_step
   refine wpStill_nil ?_
   go_wp2_with fail
   refine (taskLate_any r.t r.s.last _ (r.more dm).s.picks now _ HPVY.out).mono ?_
   obtain ⟨lt, hlt⟩ : ∃ lt, lt = lateB r.t ⟨r.s.last, (r.more dm).s.picks⟩ now := ⟨_, rfl⟩
   rw [<- hlt]
   have HLT := Lib.hid hlt
   rintro e w3 ⟨rfl, hb3⟩
   have hb3 := bthen HBY.out hb3
   have HL3 := Lib.hid (HL2.out.keep hb3)
   have HKP3 := Lib.hid (keep_at HKP2.out hb3)
   have HKE3 := Lib.hid (HKE2.out.trans (Keeps.of_below hb3))
   clear hlt hb3 y0 y1 y2 y3 y4 y5 y6 y7
   cases lt
   ·have HE := Lib.hid (show pickEv S i dm now = [] by
     unfold pickEv
     rw [if_neg (fun q => ?_)]
     have h2 := q.2
     rw [show ((i : Int)).toNat = i from rfl, <- HPP.out.2.1] at h2
     exact absurd (HLT.out.trans h2) (by decide))
    go_wp2_with fail
    go_ret2
    exact ⟨none, 0, 0, by rw [HPE.out]; rfl, F1, HL3.out, by rw [HE.out]; exact World.ownsRow_nil _ _ _ _, HKE3.out, HF1.out.1, HF1.out.2⟩
   ·have HE := Lib.hid (show pickEv S i dm now = [⟨2, S.idx, i, r.s.last + r.t.period - now⟩] by
     unfold pickEv
     rw [if_pos ⟨HPE.out, by rw [show ((i : Int)).toNat = i from rfl, <- HPP.out.2.1]; exact HLT.out.symm⟩, show ((i : Int)).toNat = i from rfl, <- HPP.out.2.1]
     rfl)
    have hwd : IntKind.i64.wrap (r.s.last + r.t.period) = r.s.last + r.t.period := by rw [IntKind.wrap_i64]; omega
    have hwe : IntKind.i64.wrap (r.s.last + r.t.period - now) = r.s.last + r.t.period - now := by rw [IntKind.wrap_i64]; omega
    go_wp2_with fail
    refine region_tail 15 (by kernel_rfl) (by kernel_rfl) ?_
    intro wy hy hby
    have hk := keep_at HKP3.out hby
    have y1 := BlockIs.of hk 1 _ rfl
    have y6 := BlockIs.of hk 6 _ rfl
    have HBY := Lib.hid hby
    have HLY := Lib.hid (HL3.out.keep hby)
    simp only [TRun.more] at y1 y6
    clear hy hby hk
    simp only [List.take_succ_cons, List.take_zero, List.drop_succ_cons, List.drop_zero]
    repeat still_step
    refine wpStill_nil ?_
    go_wp2_with fail
    refine (event_any b S.idx 2 i (r.s.last + r.t.period - now) _ (by obtain ⟨tv, jv2, c1, -⟩ := HLY.out.cell; have h := BlockIs.of c1 0 _ rfl; rw [(pickSt_len S i dm now).2.1] at h; exact h)).mono ?_
    rintro e w6 ⟨rfl, hb6⟩
    have HB6 := Lib.hid (bthen HBY.out hb6)
    have HL6 := Lib.hid (HLY.out.keep (bthen hb6 (balloc w6 (.cells (evCells ⟨2, S.idx, i, r.s.last + r.t.period - now⟩).toArray 45))))
    clear hb6 y1 y6
    go_wp2_with fail
    go_ret2
    refine ⟨some ⟨w6.heap.size, 0, none⟩, 1, 1, by rw [HPE.out]; rfl, F1, HL6.out, ?_, HKE3.out.trans (Keeps.of_below (bthen HB6.out (balloc _ _))), HF1.out.1, HF1.out.2⟩
    rw [HE.out]
    exact own_lower (own_one w6 _ 4 _ rfl) (Nat.le_trans HKE3.out.size HB6.out.size)
theorem pick_any (b lo : Nat) (ps : List Nat) (F : Nat -> Prop) (S : LSt) (m : Int) (i dm now : Int) (w : World) (h : LocAt w b lo ps F S) (hw : LWf S m) :
  Calls Tryz.prog 70 #[.pointer (some ⟨b, 0, none⟩), .int .i64 i, .int .i64 dm, .int .i64 now] w fun e w' => ∃ a n c, e = .returned (.tuple #[.slice a n c, .int .i64 (pickErr S i dm now)]) /\ ∃ F', LocAt w' b lo ps F' (pickSt S i dm now) /\ EvRow w' w.heap.size (.slice a n c) (pickEv S i dm now) /\ Keeps F w w' /\ (∀ k, F k -> F' k) /\ (∀ k, F' k -> F k ∨ w.heap.size <= k) := by
 by_cases hno : i < 0 ∨ (S.rs.length : Int) <= i ∨ clockB now = false
 ·have h1 : pickErr S i dm now = 1400 := by unfold pickErr; rw [if_pos hno]
  have h2 : pickSt S i dm now = S := by unfold pickSt; rw [h1]; rfl
  have h3 : pickEv S i dm now = [] := by unfold pickEv; rw [h1]; rfl
  refine (pickNo_any b lo ps F S i dm now w h hno).mono ?_
  rintro e w' ⟨rfl, rfl⟩
  exact ⟨none, 0, 0, by rw [h1], F, by rw [h2]; exact h, by rw [h3]; exact World.ownsRow_nil _ _ _ _, Keeps.refl _ _, fun k hk => hk, fun k hk => .inl hk⟩
 ·simp only [not_or, Int.not_lt, Int.not_le, Bool.not_eq_false] at hno
  obtain ⟨k, rfl⟩ : ∃ k : Nat, i = k := ⟨i.toNat, by omega⟩
  exact pickYes_any b lo ps F S m k dm now w h hw (by omega) hno.2.2
end Go.Proofs.YtooeeiiiflfckaaGreat
