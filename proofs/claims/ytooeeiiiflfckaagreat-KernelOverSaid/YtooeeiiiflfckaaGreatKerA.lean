/- Several texts of this claim as one. -/
import Derived.Test.YtooeeiiiflfckaaGreatLocB
import Derived.Test.YtooeeiiiflfckaaGreatPrtA
import Derived.Test.YtooeeiiiflfckaaGreatVmD
import Derived.Test.YtooeeiiiflfckaaGreatEvA
import Derived.Test.YtooeeiiiflfckaaGreatLibA
import Derived.Test.YtooeeiiiflfckaaGreatChkA
import Derived.Deep.RegionHeld3
/- package kernel, plainly: what each step of a tick does (pvm, slack, mode, script, kernel), as the program does it. -/
set_option linter.unusedVariables false
set_option linter.unusedSimpArgs false
namespace Go.Proofs.YtooeeiiiflfckaaGreat
open Go.RowKit
structure Entry where
 at_ : Int
 kind : Int
 part : Int
 task : Int
 value : Int
def fits (c : Config) (e : Entry) : Bool :=
 if clockB e.at_ = false ∨ e.part < 0 ∨ (c.parts.length : Int) <= e.part then false
 else if e.kind = 0 then decide (0 <= e.task /\ e.task < ((c.parts.getD e.part.toNat ⟨0, [], []⟩).tasks.length : Int)) && demP e.value
 else if e.kind = 1 then decide (e.task = 0) && word e.value
 else false
structure SSt where
 loc : LSt
 lvl : Int
 code : List Instr
 vm : Vm
 inp : List Int
structure KSt where
 now : Int
 start : Int
 led : Led
 mode : Mod
 cfg : Config
 seats : List SSt
 ports : PSt
def s0 : SSt := ⟨⟨0, 0, [], []⟩, 0, [], zeroVm, []⟩
def KSt.seat (K : KSt) (i : Nat) : SSt := K.seats.getD i s0
def KSt.setSeat (K : KSt) (i : Nat) (s : SSt) : KSt := { K with seats := K.seats.set i s }
def SSt.ready (s : SSt) : Bool := decide (0 < s.loc.js.length)
def turnedE (level : Int) : Event := ⟨0, -1, -1, level⟩
def boundK (K : KSt) : KSt × List Event :=
 if K.now % K.cfg.frame ≠ 0 ∨ K.now = K.start then (K, [])
 else
  let m := boundM K.mode K.cfg.quiet (K.seats.any (fun s => decide (s.lvl = 1) && s.ready))
  ({ K with mode := m }, if m.level = K.mode.level then [] else [turnedE m.level])
def enterK (K : KSt) (e : Entry) : KSt × List Event :=
 if e.at_ ≠ K.now ∨ fits K.cfg e = false then (K, [])
 else
  let s := K.seat e.part.toNat
  if e.kind = 1 then (K.setSeat e.part.toNat { s with inp := pushQ 16 s.inp e.value }, [])
  else (K.setSeat e.part.toNat { s with loc := pickSt s.loc e.task e.value K.now }, pickEv s.loc e.task e.value K.now)
def entersK (K : KSt) : List Entry -> KSt × List Event
 | [] => (K, [])
 | e :: r => ((entersK (enterK K e).1 r).1, (enterK K e).2 ++ (entersK (enterK K e).1 r).2)
def beginsK (K : KSt) : Nat -> KSt × List Event
 | 0 => (K, [])
 | k + 1 => ((beginsK K k).1.setSeat k { (beginsK K k).1.seat k with loc := begS ((beginsK K k).1.seat k).loc K.now }, (beginsK K k).2 ++ begE ((beginsK K k).1.seat k).loc K.now)
def pendingK (K : KSt) : List Int := ((List.range K.seats.length).filter (fun i => decide ((K.seat i).lvl = 0) && (K.seat i).ready)).map (fun i : Nat => (i : Int))
def ownerK (K : KSt) : KSt × Int × Bool :=
 let w := ownerAt (K.now % K.cfg.frame) K.cfg.windows
 if w < 0 ∨ (K.seat w.toNat).lvl = 0 /\ K.mode.level = 1 then (K, -1, false)
 else if (K.seat w.toNat).ready = true then (K, w, false)
 else
  let r := dealL K.led (decide ((K.seat w.toNat).lvl = 1)) (pendingK K)
  ({ K with led := r.1 }, r.2, decide (0 <= r.2))
def outsideK (K : KSt) (i : Nat) (f : Eff) : KSt × List Event :=
 let K1 := if f.took = true then K.setSeat i { K.seat i with inp := (K.seat i).inp.tail } else K
 let K2 := if 0 <= f.get then { K1 with ports := tSt K1.ports i f.get } else K1
 if f.write < 0 then (K2, [])
 else ({ K2 with ports := wSt K2.ports i f.write f.value }, [⟨8, i, f.write, f.value⟩] ++ (if wDrop K2.ports i f.write f.value = true then [⟨9, (K2.cfg.ports.getD f.write.toNat ⟨0, 0, 0, 0⟩).to_, f.write, 0⟩] else []))
def chargeK (K : KSt) (i : Nat) : KSt × List Event :=
 let s := K.seat i
 let K1 := K.setSeat i { s with loc := runS s.loc }
 if (runV s.loc).over = false then (K1, runEv s.loc)
 else ({ K1 with mode := overM }, runEv s.loc ++ (if K.mode.level = 0 then [turnedE 1] else []))
def stepK (K : KSt) (i : Nat) : KSt × List Event :=
 let s := K.seat i
 let r := stepV s.code s.vm (s.inp.headD 0) (outsS K.ports i) (getsS K.ports i)
 let K1 := K.setSeat i { s with vm := r.1 }
 if r.2.1.fault = true then (K1.setSeat i { K1.seat i with loc := failS s.loc }, failEv s.loc)
 else
  let o := outsideK K1 i r.2.1
  let c := chargeK o.1 i
  (c.1, o.2 ++ c.2)
structure KRow where
 tick : Int
 owner : Int
 dealt : Bool
 mode : Int
 events : List Event
def tickE (K : KSt) (es : List Entry) : Int := if K.now = 1099511627776 then 2201 else if 512 < es.length then 2200 else 0
def tickK (K : KSt) (es : List Entry) : KSt × KRow :=
 if tickE K es ≠ 0 then (K, ⟨0, 0, false, 0, []⟩)
 else
  let a := boundK K
  let b := entersK a.1 es
  let c := beginsK b.1 b.1.seats.length
  let o := ownerK c.1
  let d := if 0 <= o.2.1 then stepK o.1 o.2.1.toNat else (o.1, [])
  ({ d.1 with now := K.now + 1 }, ⟨K.now, o.2.1, o.2.2, d.1.mode.level, a.2 ++ b.2 ++ c.2 ++ d.2⟩)
def newK (c : Config) (start : Int) : KSt :=
 ⟨start, start, ⟨0, 0, 0, -1⟩, ⟨0, 0, false⟩, c, (List.range c.parts.length).map (fun i : Nat => ⟨newL (i : Int) (c.parts.getD i ⟨0, [], []⟩), (c.parts.getD i ⟨0, [], []⟩).level, (c.parts.getD i ⟨0, [], []⟩).code, zeroVm, []⟩), c.ports.map (fun p => (p, []))⟩
end Go.Proofs.YtooeeiiiflfckaaGreat
/- package kernel, plainly: what holds of every kernel (KOk). -/
namespace Go.Proofs.YtooeeiiiflfckaaGreat
open Go.RowKit
theorem seat_set (K : KSt) (i j : Nat) (s : SSt) (hi : i < K.seats.length) : (K.setSeat i s).seat j = if i = j then s else K.seat j := by
 unfold KSt.seat KSt.setSeat
 by_cases e : i = j
 ·subst e
  rw [if_pos rfl]
  simp [hi]
 ·rw [if_neg e]
  simp [List.getD_eq_getElem?_getD, List.getElem?_set_ne e]
theorem seats_set (K : KSt) (i : Nat) (s : SSt) : (K.setSeat i s).seats.length = K.seats.length := by simp [KSt.setSeat]
structure KOk (K : KSt) (m : Int) : Prop where
 cfg : checkCfg K.cfg = 0
 len : K.seats.length = K.cfg.parts.length
 loc : ∀ i, i < K.seats.length -> LWf (K.seat i).loc m
 pts : K.ports.map Prod.fst = K.cfg.ports
 clk : clockB K.now = true
theorem KOk.mono {K : KSt} {m n : Int} (h : KOk K m) (hn : m <= n) : KOk K n := ⟨h.cfg, h.len, fun i hi => (h.loc i hi).mono hn, h.pts, h.clk⟩
theorem KOk.seats8 {K : KSt} {m : Int} (h : KOk K m) : 1 <= K.seats.length /\ K.seats.length <= 8 := by
 have := check_ok h.cfg
 have := h.len
 omega
theorem KOk.frame {K : KSt} {m : Int} (h : KOk K m) : 1 <= K.cfg.frame /\ K.cfg.frame <= 256 /\ 1 <= K.cfg.quiet /\ K.cfg.quiet <= 16 := by
 have := check_ok h.cfg
 omega
theorem KOk.ports8 {K : KSt} {m : Int} (h : KOk K m) : K.ports.length <= 8 /\ K.ports.length = K.cfg.ports.length := by
 have h1 := (ports_of_check h.cfg).1
 have h2 := congrArg List.length h.pts
 rw [List.length_map] at h2
 omega
theorem KOk.now {K : KSt} {m : Int} (h : KOk K m) : 0 <= K.now /\ K.now <= 1099511627776 := by
 have := h.clk
 unfold clockB at this
 simpa using this
theorem KOk.setSeat {K : KSt} {m : Int} (h : KOk K m) (i : Nat) {s : SSt} (hi : i < K.seats.length) (hs : LWf s.loc m) : KOk (K.setSeat i s) m := by
 refine ⟨h.cfg, by rw [seats_set]; exact h.len, fun j hj => ?_, h.pts, h.clk⟩
 rw [seats_set] at hj
 rw [seat_set K i j s hi]
 by_cases e : i = j
 ·rw [if_pos e]; exact hs
 ·rw [if_neg e]; exact h.loc j hj
theorem KOk.led {K : KSt} {m : Int} (h : KOk K m) (l : Led) : KOk { K with led := l } m := ⟨h.cfg, h.len, h.loc, h.pts, h.clk⟩
theorem KOk.mode {K : KSt} {m : Int} (h : KOk K m) (l : Mod) : KOk { K with mode := l } m := ⟨h.cfg, h.len, h.loc, h.pts, h.clk⟩
theorem KOk.ports {K : KSt} {m : Int} (h : KOk K m) {S : PSt} (hS : S.map Prod.fst = K.ports.map Prod.fst) : KOk { K with ports := S } m := ⟨h.cfg, h.len, h.loc, hS.trans h.pts, h.clk⟩
theorem boundK_ok {K : KSt} {m : Int} (h : KOk K m) : KOk (boundK K).1 m := by
 unfold boundK
 split
 ·exact h
 ·exact h.mode _
theorem fits_part {c : Config} {e : Entry} (h : fits c e = true) : 0 <= e.part /\ e.part < c.parts.length := by
 unfold fits at h
 split at h
 ·cases h
 ·omega
theorem enterK_ok {K : KSt} {m : Int} (h : KOk K m) (e : Entry) : KOk (enterK K e).1 m := by
 unfold enterK
 split
 ·exact h
 ·rename_i hn
  have hf : fits K.cfg e = true := by
   cases q : fits K.cfg e
   ·exact absurd (.inr q) hn
   ·rfl
  have hp := fits_part hf
  have hi : e.part.toNat < K.seats.length := by have := h.len; omega
  simp only
  split
  ·exact h.setSeat _ hi (h.loc _ hi)
  ·exact h.setSeat _ hi (pickSt_wf (h.loc _ hi) _ _ _)
theorem entersK_ok {m : Int} (es : List Entry) : ∀ {K : KSt}, KOk K m -> KOk (entersK K es).1 m := by
 induction es with
 | nil => intro K h; exact h
 | cons e r ih => intro K h; exact ih (enterK_ok h e)
theorem beginsK_len (K : KSt) (k : Nat) : (beginsK K k).1.seats.length = K.seats.length := by
 induction k with
 | zero => rfl
 | succ k ih => simp only [beginsK, seats_set]; exact ih
theorem beginsK_ok {K : KSt} {m : Int} (h : KOk K m) (k : Nat) (hk : k <= K.seats.length) : KOk (beginsK K k).1 (m + 6 * k) := by
 induction k with
 | zero => simpa [beginsK] using h
 | succ k ih =>
  have h1 := ih (by omega)
  have hl := beginsK_len K k
  refine (h1.mono (by omega)).setSeat k (by omega) ?_
  exact (begS_wf (h1.loc k (by omega)) h.clk).mono (by push_cast; omega)
theorem ownerK_ok {K : KSt} {m : Int} (h : KOk K m) : KOk (ownerK K).1 m := by
 unfold ownerK
 simp only
 split
 ·exact h
 ·split
  ·exact h
  ·exact h.led _
theorem wSt_fst (S : PSt) (part port x : Int) : (wSt S part port x).map Prod.fst = S.map Prod.fst := by
 unfold wSt
 split
 ·apply List.ext_getElem?
  intro i
  simp only [List.getElem?_map, List.getElem?_set]
  split
  ·rename_i e
   split
   ·rename_i hl
    rw [<- e, List.getD_eq_getElem?_getD, List.getElem?_eq_getElem hl]
    rfl
   ·rename_i hl
    rw [<- e, List.getElem?_eq_none (by omega)]
  ·rfl
 ·rfl
theorem tSt_fst (S : PSt) (part port : Int) : (tSt S part port).map Prod.fst = S.map Prod.fst := by
 unfold tSt
 split
 ·apply List.ext_getElem?
  intro i
  simp only [List.getElem?_map, List.getElem?_set]
  split
  ·rename_i e
   split
   ·rename_i hl
    rw [<- e, List.getD_eq_getElem?_getD, List.getElem?_eq_getElem hl]
    rfl
   ·rename_i hl
    rw [<- e, List.getElem?_eq_none (by omega)]
  ·rfl
 ·rfl
theorem outsideK_ok {K : KSt} {m : Int} (h : KOk K m) (i : Nat) (hi : i < K.seats.length) (f : Eff) : KOk (outsideK K i f).1 m /\ (outsideK K i f).1.seats.length = K.seats.length := by
 have h1 : KOk (if f.took = true then K.setSeat i { K.seat i with inp := (K.seat i).inp.tail } else K) m := by
  split
  ·exact h.setSeat i hi (h.loc i hi)
  ·exact h
 have l1 : (if f.took = true then K.setSeat i { K.seat i with inp := (K.seat i).inp.tail } else K).seats.length = K.seats.length := by
  split
  ·exact seats_set _ _ _
  ·rfl
 unfold outsideK
 simp only
 generalize (if f.took = true then K.setSeat i { K.seat i with inp := (K.seat i).inp.tail } else K) = K1 at h1 l1 |-
 have h2 : KOk (if 0 <= f.get then { K1 with ports := tSt K1.ports i f.get } else K1) m := by
  split
  ·exact h1.ports (tSt_fst _ _ _)
  ·exact h1
 have l2 : (if 0 <= f.get then { K1 with ports := tSt K1.ports i f.get } else K1).seats.length = K.seats.length := by
  split <;> exact l1
 generalize (if 0 <= f.get then { K1 with ports := tSt K1.ports i f.get } else K1) = K2 at h2 l2 |-
 split
 ·exact ⟨h2, l2⟩
 ·exact ⟨h2.ports (wSt_fst _ _ _ _), l2⟩
theorem chargeK_ok {K : KSt} {m : Int} (h : KOk K m) (i : Nat) (hi : i < K.seats.length) : KOk (chargeK K i).1 m := by
 have h1 := h.setSeat i (s := { K.seat i with loc := runS (K.seat i).loc }) hi (runS_wf (h.loc i hi))
 unfold chargeK
 simp only
 split
 ·exact h1
 ·exact h1.mode _
theorem stepK_ok {K : KSt} {m : Int} (h : KOk K m) (i : Nat) (hi : i < K.seats.length) : KOk (stepK K i).1 m := by
 unfold stepK
 simp only
 generalize stepV _ _ _ _ _ = r
 have h1 := h.setSeat i (s := { K.seat i with vm := r.1 }) hi (h.loc i hi)
 have l1 := seats_set K i { K.seat i with vm := r.1 }
 generalize K.setSeat i { K.seat i with vm := r.1 } = K1 at h1 l1 |-
 split
 ·exact h1.setSeat i (by omega) (failS_wf (h.loc i hi))
 ·have h2 := outsideK_ok h1 i (by omega) r.2.1
  exact chargeK_ok h2.1 i (by omega)
end Go.Proofs.YtooeeiiiflfckaaGreat
/- Rows of the call's own whose cells are known element by element. -/
namespace Go.Proofs.YtooeeiiiflfckaaGreat
open Go.RowKit
def taskCells (x : Task) : List Value := [.int .i64 x.kind, .int .i64 x.period, .int .i64 x.deadline, .int .i64 x.clow, .int .i64 x.chigh, .int .i64 x.prio]
def instrCells (x : Instr) : List Value := [.int .i64 x.op, .int .i64 x.arg]
def windowCells (x : Window) : List Value := [.int .i64 x.from_, .int .i64 x.to_, .int .i64 x.part]
def portCells (x : Port) : List Value := [.int .i64 x.kind, .int .i64 x.from_, .int .i64 x.to_, .int .i64 x.size]
theorem flatTask : Flat TaskAt 6 taskCells where
 pos := by decide
 len _ := rfl
 one x u hu := by simp [taskCells] at hu; rcases hu with rfl | rfl | rfl | rfl | rfl | rfl <;> rfl
 of W b o x h := ⟨h 0 _ rfl, h 1 _ rfl, h 2 _ rfl, h 3 _ rfl, h 4 _ rfl, h 5 _ rfl⟩
 cell W b o x h j u hu := by
  obtain ⟨h0, h1, h2, h3, h4, h5⟩ := h
  match j, hu with
  | 0, hu => injection hu with hu; subst hu; exact h0
  | 1, hu => injection hu with hu; subst hu; exact h1
  | 2, hu => injection hu with hu; subst hu; exact h2
  | 3, hu => injection hu with hu; subst hu; exact h3
  | 4, hu => injection hu with hu; subst hu; exact h4
  | 5, hu => injection hu with hu; subst hu; exact h5
theorem flatInstr : Flat InstrAt 2 instrCells where
 pos := by decide
 len _ := rfl
 one x u hu := by simp [instrCells] at hu; rcases hu with rfl | rfl <;> rfl
 of W b o x h := ⟨h 0 _ rfl, h 1 _ rfl⟩
 cell W b o x h j u hu := by
  obtain ⟨h0, h1⟩ := h
  match j, hu with
  | 0, hu => injection hu with hu; subst hu; exact h0
  | 1, hu => injection hu with hu; subst hu; exact h1
theorem flatWindow : Flat WindowAt 3 windowCells where
 pos := by decide
 len _ := rfl
 one x u hu := by simp [windowCells] at hu; rcases hu with rfl | rfl | rfl <;> rfl
 of W b o x h := ⟨h 0 _ rfl, h 1 _ rfl, h 2 _ rfl⟩
 cell W b o x h j u hu := by
  obtain ⟨h0, h1, h2⟩ := h
  match j, hu with
  | 0, hu => injection hu with hu; subst hu; exact h0
  | 1, hu => injection hu with hu; subst hu; exact h1
  | 2, hu => injection hu with hu; subst hu; exact h2
theorem flatPort : Flat PortAt 4 portCells where
 pos := by decide
 len _ := rfl
 one x u hu := by simp [portCells] at hu; rcases hu with rfl | rfl | rfl | rfl <;> rfl
 of W b o x h := ⟨h 0 _ rfl, h 1 _ rfl, h 2 _ rfl, h 3 _ rfl⟩
 cell W b o x h j u hu := by
  obtain ⟨h0, h1, h2, h3⟩ := h
  match j, hu with
  | 0, hu => injection hu with hu; subst hu; exact h0
  | 1, hu => injection hu with hu; subst hu; exact h1
  | 2, hu => injection hu with hu; subst hu; exact h2
  | 3, hu => injection hu with hu; subst hu; exact h3
end Go.Proofs.YtooeeiiiflfckaaGreat
/- slices.Clone. -/
namespace Go.Proofs.YtooeeiiiflfckaaGreat
open Go.RowKit
theorem cinfoPart : (Tryz.prog.info? 49).map (fun i => (i.zero, i.size, i.bytes)) = some (some (.agg #[.int .i64 0, .slice none 0 0, .slice none 0 0]), 3, 56) := by kernel_rfl
set_option maxRecDepth 100000 in
set_option maxHeartbeats 400000 in
theorem clonePart_raw (v : Value) (n : Nat) (w : World) (a : Option Addr) (cap : Nat) (news : List Value) (hv : v = .slice a n cap) (hsrc : Src w v n news) (hl : news.length = n * 3) (h1 : ∀ u ∈ news, u.oneCell' = true) (h2 : n * 56 <= 140737488351232) (h3 : n <= cap) (h4 : cap <= maxLen) :
  Calls Tryz.prog 58 #[v] w fun e w' => ∃ v', e = .returned v' /\ w'.ownsRow w.heap.size 49 3 v' n news /\ Below w.heap.size w w' := by
 subst hv
 have hrun := fun W => Lib.run_eql_slice_nil (P := Tryz.prog) W 22 49 a n cap 0 0 Tryz.underlying22
 rcases a with _ | ad
 ·have hn : n = 0 /\ news = [] := by
   rcases hsrc with ⟨c, -, h, h'⟩ | ⟨ad, c, h, -⟩
   ·exact ⟨h, h'⟩
   ·injection h with h; cases h
  obtain ⟨rfl, rfl⟩ := hn
  clear hsrc
  go_enter Tryz.func58, Tryz.ntmps58
  go_wp2_with fail
  go_ret
  exact ⟨_, rfl, World.ownsRow_nil _ _ _ _, Below.refl _ _⟩
 ·have hsrc2 : Src (w.alloc (.cells #[] 49)) (.slice (some ad) n cap) n news := by
   rcases hsrc with ⟨c, h, -⟩ | ⟨ad', c, h, hc⟩
   ·injection h with h; cases h
   ·injection h with h h' h''
    injection h with h
    subst h; subst h''
    exact .inr ⟨_, _, rfl, fun j u hu => Ext.alloc _ _ _ _ (hc j u hu)⟩
  have HS := Lib.hid hsrc2
  clear hsrc hsrc2
  have HL := Lib.hid (And.intro hl h1)
  clear hl h1
  go_enter Tryz.func58, Tryz.ntmps58
  go_wp2_with (at_builtin; refine wpList_onto _ rfl (.tmp 5) (.tmp 6) 22 rfl w.heap.size 49 _ 3 56 Tryz.underlying22 cinfoPart rfl (by decide) _ 0 [] rfl (own_lit w _ _) n news HS.out HL.out.1 HL.out.2 (by simp only [maxLen] at h4 |-; omega) (by omega) (by simp) ?_)
  intro v' w' hown hg
  have hown' : w'.ownsRow w.heap.size 49 3 v' n news := by simpa using hown
  have hb : Below w.heap.size w w' := (balloc w (.cells #[] 49)).grown hg (by simp) (fun k hk => by simp [Value.ownBlock] at hk; omega)
  have HB := Lib.hid (And.intro hown' hb)
  obtain ⟨a', c', rfl⟩ := own_shape hown'
  clear hown hown' hb hg
  go_wp2_with fail
  go_ret
  exact ⟨_, rfl, HB.out.1, HB.out.2⟩
theorem cinfoTask : (Tryz.prog.info? 51).map (fun i => (i.zero, i.size, i.bytes)) = some (some (.agg #[.int .i64 0, .int .i64 0, .int .i64 0, .int .i64 0, .int .i64 0, .int .i64 0]), 6, 48) := by kernel_rfl
set_option maxRecDepth 100000 in
set_option maxHeartbeats 400000 in
theorem cloneTask_raw (v : Value) (n : Nat) (w : World) (a : Option Addr) (cap : Nat) (news : List Value) (hv : v = .slice a n cap) (hsrc : Src w v n news) (hl : news.length = n * 6) (h1 : ∀ u ∈ news, u.oneCell' = true) (h2 : n * 48 <= 140737488351232) (h3 : n <= cap) (h4 : cap <= maxLen) :
  Calls Tryz.prog 59 #[v] w fun e w' => ∃ v', e = .returned v' /\ w'.ownsRow w.heap.size 51 6 v' n news /\ Below w.heap.size w w' := by
 subst hv
 have hrun := fun W => Lib.run_eql_slice_nil (P := Tryz.prog) W 46 51 a n cap 0 0 Tryz.underlying46
 rcases a with _ | ad
 ·have hn : n = 0 /\ news = [] := by
   rcases hsrc with ⟨c, -, h, h'⟩ | ⟨ad, c, h, -⟩
   ·exact ⟨h, h'⟩
   ·injection h with h; cases h
  obtain ⟨rfl, rfl⟩ := hn
  clear hsrc
  go_enter Tryz.func59, Tryz.ntmps59
  go_wp2_with fail
  go_ret
  exact ⟨_, rfl, World.ownsRow_nil _ _ _ _, Below.refl _ _⟩
 ·have hsrc2 : Src (w.alloc (.cells #[] 51)) (.slice (some ad) n cap) n news := by
   rcases hsrc with ⟨c, h, -⟩ | ⟨ad', c, h, hc⟩
   ·injection h with h; cases h
   ·injection h with h h' h''
    injection h with h
    subst h; subst h''
    exact .inr ⟨_, _, rfl, fun j u hu => Ext.alloc _ _ _ _ (hc j u hu)⟩
  have HS := Lib.hid hsrc2
  clear hsrc hsrc2
  have HL := Lib.hid (And.intro hl h1)
  clear hl h1
  go_enter Tryz.func59, Tryz.ntmps59
  go_wp2_with (at_builtin; refine wpList_onto _ rfl (.tmp 5) (.tmp 6) 46 rfl w.heap.size 51 _ 6 48 Tryz.underlying46 cinfoTask rfl (by decide) _ 0 [] rfl (own_lit w _ _) n news HS.out HL.out.1 HL.out.2 (by simp only [maxLen] at h4 |-; omega) (by omega) (by simp) ?_)
  intro v' w' hown hg
  have hown' : w'.ownsRow w.heap.size 51 6 v' n news := by simpa using hown
  have hb : Below w.heap.size w w' := (balloc w (.cells #[] 51)).grown hg (by simp) (fun k hk => by simp [Value.ownBlock] at hk; omega)
  have HB := Lib.hid (And.intro hown' hb)
  obtain ⟨a', c', rfl⟩ := own_shape hown'
  clear hown hown' hb hg
  go_wp2_with fail
  go_ret
  exact ⟨_, rfl, HB.out.1, HB.out.2⟩
theorem cinfoInstr : (Tryz.prog.info? 66).map (fun i => (i.zero, i.size, i.bytes)) = some (some (.agg #[.int .i64 0, .int .i64 0]), 2, 16) := by kernel_rfl
set_option maxRecDepth 100000 in
set_option maxHeartbeats 400000 in
theorem cloneInstr_raw (v : Value) (n : Nat) (w : World) (a : Option Addr) (cap : Nat) (news : List Value) (hv : v = .slice a n cap) (hsrc : Src w v n news) (hl : news.length = n * 2) (h1 : ∀ u ∈ news, u.oneCell' = true) (h2 : n * 16 <= 140737488351232) (h3 : n <= cap) (h4 : cap <= maxLen) :
  Calls Tryz.prog 60 #[v] w fun e w' => ∃ v', e = .returned v' /\ w'.ownsRow w.heap.size 66 2 v' n news /\ Below w.heap.size w w' := by
 subst hv
 have hrun := fun W => Lib.run_eql_slice_nil (P := Tryz.prog) W 47 66 a n cap 0 0 Tryz.underlying47
 rcases a with _ | ad
 ·have hn : n = 0 /\ news = [] := by
   rcases hsrc with ⟨c, -, h, h'⟩ | ⟨ad, c, h, -⟩
   ·exact ⟨h, h'⟩
   ·injection h with h; cases h
  obtain ⟨rfl, rfl⟩ := hn
  clear hsrc
  go_enter Tryz.func60, Tryz.ntmps60
  go_wp2_with fail
  go_ret
  exact ⟨_, rfl, World.ownsRow_nil _ _ _ _, Below.refl _ _⟩
 ·have hsrc2 : Src (w.alloc (.cells #[] 66)) (.slice (some ad) n cap) n news := by
   rcases hsrc with ⟨c, h, -⟩ | ⟨ad', c, h, hc⟩
   ·injection h with h; cases h
   ·injection h with h h' h''
    injection h with h
    subst h; subst h''
    exact .inr ⟨_, _, rfl, fun j u hu => Ext.alloc _ _ _ _ (hc j u hu)⟩
  have HS := Lib.hid hsrc2
  clear hsrc hsrc2
  have HL := Lib.hid (And.intro hl h1)
  clear hl h1
  go_enter Tryz.func60, Tryz.ntmps60
  go_wp2_with (at_builtin; refine wpList_onto _ rfl (.tmp 5) (.tmp 6) 47 rfl w.heap.size 66 _ 2 16 Tryz.underlying47 cinfoInstr rfl (by decide) _ 0 [] rfl (own_lit w _ _) n news HS.out HL.out.1 HL.out.2 (by simp only [maxLen] at h4 |-; omega) (by omega) (by simp) ?_)
  intro v' w' hown hg
  have hown' : w'.ownsRow w.heap.size 66 2 v' n news := by simpa using hown
  have hb : Below w.heap.size w w' := (balloc w (.cells #[] 66)).grown hg (by simp) (fun k hk => by simp [Value.ownBlock] at hk; omega)
  have HB := Lib.hid (And.intro hown' hb)
  obtain ⟨a', c', rfl⟩ := own_shape hown'
  clear hown hown' hb hg
  go_wp2_with fail
  go_ret
  exact ⟨_, rfl, HB.out.1, HB.out.2⟩
theorem cinfoWindow : (Tryz.prog.info? 61).map (fun i => (i.zero, i.size, i.bytes)) = some (some (.agg #[.int .i64 0, .int .i64 0, .int .i64 0]), 3, 24) := by kernel_rfl
set_option maxRecDepth 100000 in
set_option maxHeartbeats 400000 in
theorem cloneWindow_raw (v : Value) (n : Nat) (w : World) (a : Option Addr) (cap : Nat) (news : List Value) (hv : v = .slice a n cap) (hsrc : Src w v n news) (hl : news.length = n * 3) (h1 : ∀ u ∈ news, u.oneCell' = true) (h2 : n * 24 <= 140737488351232) (h3 : n <= cap) (h4 : cap <= maxLen) :
  Calls Tryz.prog 61 #[v] w fun e w' => ∃ v', e = .returned v' /\ w'.ownsRow w.heap.size 61 3 v' n news /\ Below w.heap.size w w' := by
 subst hv
 have hrun := fun W => Lib.run_eql_slice_nil (P := Tryz.prog) W 23 61 a n cap 0 0 Tryz.underlying23
 rcases a with _ | ad
 ·have hn : n = 0 /\ news = [] := by
   rcases hsrc with ⟨c, -, h, h'⟩ | ⟨ad, c, h, -⟩
   ·exact ⟨h, h'⟩
   ·injection h with h; cases h
  obtain ⟨rfl, rfl⟩ := hn
  clear hsrc
  go_enter Tryz.func61, Tryz.ntmps61
  go_wp2_with fail
  go_ret
  exact ⟨_, rfl, World.ownsRow_nil _ _ _ _, Below.refl _ _⟩
 ·have hsrc2 : Src (w.alloc (.cells #[] 61)) (.slice (some ad) n cap) n news := by
   rcases hsrc with ⟨c, h, -⟩ | ⟨ad', c, h, hc⟩
   ·injection h with h; cases h
   ·injection h with h h' h''
    injection h with h
    subst h; subst h''
    exact .inr ⟨_, _, rfl, fun j u hu => Ext.alloc _ _ _ _ (hc j u hu)⟩
  have HS := Lib.hid hsrc2
  clear hsrc hsrc2
  have HL := Lib.hid (And.intro hl h1)
  clear hl h1
  go_enter Tryz.func61, Tryz.ntmps61
  go_wp2_with (at_builtin; refine wpList_onto _ rfl (.tmp 5) (.tmp 6) 23 rfl w.heap.size 61 _ 3 24 Tryz.underlying23 cinfoWindow rfl (by decide) _ 0 [] rfl (own_lit w _ _) n news HS.out HL.out.1 HL.out.2 (by simp only [maxLen] at h4 |-; omega) (by omega) (by simp) ?_)
  intro v' w' hown hg
  have hown' : w'.ownsRow w.heap.size 61 3 v' n news := by simpa using hown
  have hb : Below w.heap.size w w' := (balloc w (.cells #[] 61)).grown hg (by simp) (fun k hk => by simp [Value.ownBlock] at hk; omega)
  have HB := Lib.hid (And.intro hown' hb)
  obtain ⟨a', c', rfl⟩ := own_shape hown'
  clear hown hown' hb hg
  go_wp2_with fail
  go_ret
  exact ⟨_, rfl, HB.out.1, HB.out.2⟩
theorem cinfoPort : (Tryz.prog.info? 121).map (fun i => (i.zero, i.size, i.bytes)) = some (some (.agg #[.int .i64 0, .int .i64 0, .int .i64 0, .int .i64 0]), 4, 32) := by kernel_rfl
set_option maxRecDepth 100000 in
set_option maxHeartbeats 400000 in
theorem clonePort_raw (v : Value) (n : Nat) (w : World) (a : Option Addr) (cap : Nat) (news : List Value) (hv : v = .slice a n cap) (hsrc : Src w v n news) (hl : news.length = n * 4) (h1 : ∀ u ∈ news, u.oneCell' = true) (h2 : n * 32 <= 140737488351232) (h3 : n <= cap) (h4 : cap <= maxLen) :
  Calls Tryz.prog 62 #[v] w fun e w' => ∃ v', e = .returned v' /\ w'.ownsRow w.heap.size 121 4 v' n news /\ Below w.heap.size w w' := by
 subst hv
 have hrun := fun W => Lib.run_eql_slice_nil (P := Tryz.prog) W 24 121 a n cap 0 0 Tryz.underlying24
 rcases a with _ | ad
 ·have hn : n = 0 /\ news = [] := by
   rcases hsrc with ⟨c, -, h, h'⟩ | ⟨ad, c, h, -⟩
   ·exact ⟨h, h'⟩
   ·injection h with h; cases h
  obtain ⟨rfl, rfl⟩ := hn
  clear hsrc
  go_enter Tryz.func62, Tryz.ntmps62
  go_wp2_with fail
  go_ret
  exact ⟨_, rfl, World.ownsRow_nil _ _ _ _, Below.refl _ _⟩
 ·have hsrc2 : Src (w.alloc (.cells #[] 121)) (.slice (some ad) n cap) n news := by
   rcases hsrc with ⟨c, h, -⟩ | ⟨ad', c, h, hc⟩
   ·injection h with h; cases h
   ·injection h with h h' h''
    injection h with h
    subst h; subst h''
    exact .inr ⟨_, _, rfl, fun j u hu => Ext.alloc _ _ _ _ (hc j u hu)⟩
  have HS := Lib.hid hsrc2
  clear hsrc hsrc2
  have HL := Lib.hid (And.intro hl h1)
  clear hl h1
  go_enter Tryz.func62, Tryz.ntmps62
  go_wp2_with (at_builtin; refine wpList_onto _ rfl (.tmp 5) (.tmp 6) 24 rfl w.heap.size 121 _ 4 32 Tryz.underlying24 cinfoPort rfl (by decide) _ 0 [] rfl (own_lit w _ _) n news HS.out HL.out.1 HL.out.2 (by simp only [maxLen] at h4 |-; omega) (by omega) (by simp) ?_)
  intro v' w' hown hg
  have hown' : w'.ownsRow w.heap.size 121 4 v' n news := by simpa using hown
  have hb : Below w.heap.size w w' := (balloc w (.cells #[] 121)).grown hg (by simp) (fun k hk => by simp [Value.ownBlock] at hk; omega)
  have HB := Lib.hid (And.intro hown' hb)
  obtain ⟨a', c', rfl⟩ := own_shape hown'
  clear hown hown' hb hg
  go_wp2_with fail
  go_ret
  exact ⟨_, rfl, HB.out.1, HB.out.2⟩
theorem cloneTask_any (v : Value) (xs : List Task) (w : World) (hv : TasksV w v xs) :
  Calls Tryz.prog 59 #[v] w fun e w' => ∃ v', e = .returned v' /\ w'.ownsRow w.heap.size 51 6 v' xs.length (xs.flatMap taskCells) /\ Below w.heap.size w w' := by
 have hs := flatTask.src hv
 obtain ⟨a, cap, hv1, h2, h3, h4, -⟩ := hv
 exact cloneTask_raw v xs.length w a cap _ hv1 hs (flat_len _ _ flatTask.len xs) (flat_one flatTask xs) h2 h3 h4
theorem cloneInstr_any (v : Value) (xs : List Instr) (w : World) (hv : CodeV w v xs) :
  Calls Tryz.prog 60 #[v] w fun e w' => ∃ v', e = .returned v' /\ w'.ownsRow w.heap.size 66 2 v' xs.length (xs.flatMap instrCells) /\ Below w.heap.size w w' := by
 have hs := flatInstr.src hv
 obtain ⟨a, cap, hv1, h2, h3, h4, -⟩ := hv
 exact cloneInstr_raw v xs.length w a cap _ hv1 hs (flat_len _ _ flatInstr.len xs) (flat_one flatInstr xs) h2 h3 h4
theorem cloneWindow_any (v : Value) (xs : List Window) (w : World) (hv : WindowsV w v xs) :
  Calls Tryz.prog 61 #[v] w fun e w' => ∃ v', e = .returned v' /\ w'.ownsRow w.heap.size 61 3 v' xs.length (xs.flatMap windowCells) /\ Below w.heap.size w w' := by
 have hs := flatWindow.src hv
 obtain ⟨a, cap, hv1, h2, h3, h4, -⟩ := hv
 exact cloneWindow_raw v xs.length w a cap _ hv1 hs (flat_len _ _ flatWindow.len xs) (flat_one flatWindow xs) h2 h3 h4
theorem clonePort_any (v : Value) (xs : List Port) (w : World) (hv : PortsV w v xs) :
  Calls Tryz.prog 62 #[v] w fun e w' => ∃ v', e = .returned v' /\ w'.ownsRow w.heap.size 121 4 v' xs.length (xs.flatMap portCells) /\ Below w.heap.size w w' := by
 have hs := flatPort.src hv
 obtain ⟨a, cap, hv1, h2, h3, h4, -⟩ := hv
 exact clonePort_raw v xs.length w a cap _ hv1 hs (flat_len _ _ flatPort.len xs) (flat_one flatPort xs) h2 h3 h4
end Go.Proofs.YtooeeiiiflfckaaGreat
/- config.Copy. -/
namespace Go.Proofs.YtooeeiiiflfckaaGreat
open Go.RowKit
theorem toldPartC : Told PartAt 3 where
 has h j hj := by
  obtain ⟨h0, tv, cv, h1, h2, h3⟩ := h
  rcases (show j = 0 ∨ j = 1 ∨ j = 2 by omega) with rfl | rfl | rfl
  ·exact IntAt.has h0
  ·obtain ⟨a, cap, rfl, -⟩ := h3.tasks
   exact ⟨_, h1, rfl⟩
  ·obtain ⟨a, cap, rfl, -⟩ := h3.code
   exact ⟨_, h2, rfl⟩
 move h e hm := by
  obtain ⟨h0, tv, cv, h1, h2, h3⟩ := h
  exact ⟨hm 0 _ (by decide) h0, tv, cv, hm 1 _ (by decide) h1, hm 2 _ (by decide) h2, h3.ext e⟩
theorem parts_raw {w : World} {v : Value} {ps : List Part} (h : PartsV w v ps) : ∃ L : List Value, L.length = ps.length * 3 /\ (∀ u ∈ L, u.oneCell' = true) /\ Src w v ps.length L /\ ∀ i (hi : i < ps.length), ∃ tv cv, L[i * 3]? = some (.int .i64 ps[i].level) /\ L[i * 3 + 1]? = some tv /\ L[i * 3 + 2]? = some cv /\ PartIs w tv cv ps[i] := by
 obtain ⟨L, hl, h1, hs, -⟩ := SliceAt.cells toldPartC (by decide) h
 refine ⟨L, hl, h1, hs, fun i hi => ?_⟩
 obtain ⟨a, cap, rfl, -, -, -, h5⟩ := h
 obtain ⟨b, off, rfl, hc⟩ := h5 (by intro e; rw [e] at hi; simp at hi)
 obtain ⟨y0, tv, cv, y1, y2, y3⟩ := hc i hi
 have hget : ∀ j (v : Value), j < ps.length * 3 -> w.cell? ⟨b, off + j, none⟩ = some v -> L[j]? = some v := by
  intro j v hj hv
  have hlt : j < L.length := by omega
  rcases hs with ⟨c, e, -⟩ | ⟨ad, c, e, hs⟩
  ·cases e
  ·injection e with e
   injection e with e
   subst e
   have := hs j _ (List.getElem?_eq_getElem hlt)
   rw [addr_add, hv] at this
   rw [List.getElem?_eq_getElem hlt]
   exact this.symm
 refine ⟨tv, cv, hget _ _ (by omega) y0, hget _ _ (by omega) ?_, hget _ _ (by omega) ?_, y3⟩
 ·rw [<- Nat.add_assoc]; exact y1
 ·rw [<- Nat.add_assoc]; exact y2
def PartOf (W : World) (B : Nat) (tv cv : Value) (x : Part) : Prop := W.ownsRow B 51 6 tv x.tasks.length (x.tasks.flatMap taskCells) /\ W.ownsRow B 66 2 cv x.code.length (x.code.flatMap instrCells)
theorem PartOf.below {W W' : World} {B : Nat} {tv cv : Value} {x : Part} (h : PartOf W B tv cv x) (hb : Below W.heap.size W W') : PartOf W' B tv cv x := ⟨Below.kept h.1 hb, Below.kept h.2 hb⟩
theorem PartOf.apart {W W' : World} {B : Nat} {tv cv : Value} {x : Part} (h : PartOf W B tv cv x) {r : Option Nat} (hg : W.grownBy W' r) (hr : ∀ g, r = some g -> Typed W g 49) : PartOf W' B tv cv x := ⟨own_apart h.1 hg hr (by decide), own_apart h.2 hg hr (by decide)⟩
def CopyRow (w W : World) (B : Nat) (v : Value) (k : Nat) (ps : List Part) : Prop :=
 ∃ L, W.ownsRow B 49 3 v ps.length L /\ ∀ i (hi : i < ps.length), ∃ tv cv, L[i * 3]? = some (.int .i64 ps[i].level) /\ L[i * 3 + 1]? = some tv /\ L[i * 3 + 2]? = some cv /\ (i < k -> PartOf W B tv cv ps[i]) /\ (k <= i -> PartIs w tv cv ps[i])
theorem CopyRow.below {w W W' : World} {B : Nat} {v : Value} {k : Nat} {ps : List Part} (h : CopyRow w W B v k ps) (hb : Below W.heap.size W W') : CopyRow w W' B v k ps := by
 obtain ⟨L, h1, h2⟩ := h
 refine ⟨L, Below.kept h1 hb, fun i hi => ?_⟩
 obtain ⟨tv, cv, a1, a2, a3, a4, a5⟩ := h2 i hi
 exact ⟨tv, cv, a1, a2, a3, fun h => (a4 h).below hb, a5⟩
theorem CopyRow.apart {w W W' : World} {B : Nat} {v : Value} {k : Nat} {ps : List Part} (h : CopyRow w W B v k ps) {r : Option Nat} {t : TypeId} (hg : W.grownBy W' r) (hr : ∀ g, r = some g -> Typed W g t) (h1 : 49 ≠ t) (h2 : 51 ≠ t) (h3 : 66 ≠ t) : CopyRow w W' B v k ps := by
 obtain ⟨L, l1, l2⟩ := h
 refine ⟨L, own_apart l1 hg hr h1, fun i hi => ?_⟩
 obtain ⟨tv, cv, a1, a2, a3, a4, a5⟩ := l2 i hi
 exact ⟨tv, cv, a1, a2, a3, fun h => ⟨own_apart (a4 h).1 hg hr h2, own_apart (a4 h).2 hg hr h3⟩, a5⟩
theorem CopyRow.parts {w W : World} {B : Nat} {v : Value} {ps : List Part} (h : CopyRow w W B v ps.length ps) (h1 : ps.length * 56 <= 140737488351232) (h2 : ∀ x ∈ ps, x.tasks.length * 48 <= 140737488351232 /\ x.code.length * 16 <= 140737488351232) : PartsV W v ps := by
 obtain ⟨L, l1, l2⟩ := h
 by_cases hx : ps = []
 ·subst hx
  rcases l1.2 with ⟨rfl, _⟩ | ⟨g, cap', cur, rfl, _, _, hn, hm, _⟩
  ·exact slice0 _ _ _ _
  ·exact ⟨_, cap', rfl, by simp, hn, hm, fun h => absurd rfl h⟩
 ·have hpos : 0 < ps.length := List.length_pos_iff.2 hx
  obtain ⟨g, cap', rfl, hg, hn, hm⟩ := ownsRow_some l1 hpos
  have hl : L.length = ps.length * 3 := l1.1
  refine ⟨_, cap', rfl, h1, hn, hm, fun _ => ⟨g, 0, rfl, fun i hi => ?_⟩⟩
  obtain ⟨tv, cv, a1, a2, a3, a4, -⟩ := l2 i hi
  have hsz := h2 _ (List.getElem_mem hi)
  refine ⟨?_, tv, cv, ?_, ?_, ⟨flatTask.slice (a4 hi).1 hsz.1, flatInstr.slice (a4 hi).2 hsz.2⟩⟩
  ·unfold IntAt; rw [Nat.zero_add, l1.cellAt _ (by omega)]; exact a1
  ·rw [Nat.zero_add, l1.cellAt _ (by omega)]; exact a2
  ·rw [Nat.zero_add, l1.cellAt _ (by omega)]; exact a3
end Go.Proofs.YtooeeiiiflfckaaGreat
/- config.Copy: the walk. -/
namespace Go.Proofs.YtooeeiiiflfckaaGreat
open Go.RowKit
theorem Src.ext {w w' : World} {x : Value} {m : Nat} {news : List Value} (h : Src w x m news) (e : Ext w w') : Src w' x m news := by
 rcases h with h | ⟨ad, c, h1, h2⟩
 ·exact .inl h
 ·exact .inr ⟨ad, c, h1, fun j u hu => e _ _ (h2 j u hu)⟩
structure CopyOf (W : World) (B : Nat) (pv wv ov : Value) (c : Config) : Prop where
 parts : CopyRow W W B pv c.parts.length c.parts
 windows : W.ownsRow B 61 3 wv c.windows.length (c.windows.flatMap windowCells)
 ports : W.ownsRow B 121 4 ov c.ports.length (c.ports.flatMap portCells)
 size : c.parts.length * 56 <= 140737488351232 /\ c.windows.length * 24 <= 140737488351232 /\ c.ports.length * 32 <= 140737488351232 /\ ∀ x ∈ c.parts, x.tasks.length * 48 <= 140737488351232 /\ x.code.length * 16 <= 140737488351232
theorem CopyOf.is {W : World} {B : Nat} {pv wv ov : Value} {c : Config} (h : CopyOf W B pv wv ov c) : CfgIs W pv wv ov c :=
 ⟨h.parts.parts h.size.1 h.size.2.2.2, flatWindow.slice h.windows h.size.2.1, flatPort.slice h.ports h.size.2.2.1⟩
theorem cfg_sizes {W : World} {pv wv ov : Value} {c : Config} (h : CfgIs W pv wv ov c) : c.parts.length * 56 <= 140737488351232 /\ c.windows.length * 24 <= 140737488351232 /\ c.ports.length * 32 <= 140737488351232 /\ ∀ x ∈ c.parts, x.tasks.length * 48 <= 140737488351232 /\ x.code.length * 16 <= 140737488351232 := by
 obtain ⟨a, cap, -, h1, -, -, h5⟩ := h.parts
 obtain ⟨-, -, -, h2, -⟩ := h.windows
 obtain ⟨-, -, -, h3, -⟩ := h.ports
 refine ⟨h1, h2, h3, fun x hx => ?_⟩
 obtain ⟨i, hi, rfl⟩ := List.getElem_of_mem hx
 obtain ⟨b, off, -, hc⟩ := h5 (by intro e; rw [e] at hi; simp at hi)
 obtain ⟨-, tv, cv, -, -, h6⟩ := hc i hi
 obtain ⟨-, -, -, h7, -⟩ := h6.tasks
 obtain ⟨-, -, -, h8, -⟩ := h6.code
 exact ⟨h7, h8⟩
def MidRow (w W : World) (B : Nat) (v : Value) (k : Nat) (ps : List Part) (tv cv : Value) : Prop :=
 ∃ L, W.ownsRow B 49 3 v ps.length L /\ L[k * 3 + 1]? = some tv /\ L[k * 3 + 2]? = some cv /\ (∀ h : k < ps.length, L[k * 3]? = some (.int .i64 ps[k].level)) /\ ∀ i (hi : i < ps.length), i ≠ k -> ∃ tv cv, L[i * 3]? = some (.int .i64 ps[i].level) /\ L[i * 3 + 1]? = some tv /\ L[i * 3 + 2]? = some cv /\ (i < k -> PartOf W B tv cv ps[i]) /\ (k <= i -> PartIs w tv cv ps[i])
theorem MidRow.below {w W W' : World} {B : Nat} {v tv cv : Value} {k : Nat} {ps : List Part} (h : MidRow w W B v k ps tv cv) (hb : Below W.heap.size W W') : MidRow w W' B v k ps tv cv := by
 obtain ⟨L, h1, h2, h3, h0, h4⟩ := h
 refine ⟨L, Below.kept h1 hb, h2, h3, h0, fun i hi hk => ?_⟩
 obtain ⟨tv, cv, a1, a2, a3, a4, a5⟩ := h4 i hi hk
 exact ⟨tv, cv, a1, a2, a3, fun h => (a4 h).below hb, a5⟩
theorem MidRow.cells {w W : World} {B : Nat} {tv cv : Value} {k q cap : Nat} {ps : List Part} (h : MidRow w W B (.slice (some ⟨q, 0, none⟩) ps.length cap) k ps tv cv) (hk : k < ps.length) : W.cell? ⟨q, k * 3 + 1, none⟩ = some tv /\ W.cell? ⟨q, k * 3 + 2, none⟩ = some cv /\ (∀ j, W.frozen? ⟨q, j, none⟩ = false) /\ Typed W q 49 := by
 obtain ⟨L, h1, h2, h3, -⟩ := h
 obtain ⟨cur, hcur⟩ := own_typed h1 (g := q) rfl
 have hl : L.length = ps.length * 3 := h1.1
 exact ⟨by rw [h1.cellAt _ (by omega)]; exact h2, by rw [h1.cellAt _ (by omega)]; exact h3, fun j => thaw hcur j, ⟨_, hcur⟩⟩
theorem MidRow.setT {w W : World} {B : Nat} {tv cv u : Value} {k q cap : Nat} {ps : List Part} (h : MidRow w W B (.slice (some ⟨q, 0, none⟩) ps.length cap) k ps tv cv) (hk : k < ps.length) : MidRow w (W.setCell ⟨q, k * 3 + 1, none⟩ u) B (.slice (some ⟨q, 0, none⟩) ps.length cap) k ps u cv := by
 obtain ⟨L, h1, h2, h3, h0, h4⟩ := h
 have hty : ∀ g, some q = some g -> Typed W g 49 := fun g hg => by injection hg with hg; rw [<- hg]; exact own_typed h1 rfl
 have hgr := set_grown W q (k * 3 + 1) u
 have hl : L.length = ps.length * 3 := h1.1
 refine ⟨_, own_set h1 _ _, by rw [List.getElem?_set_self (by omega)], by rw [List.getElem?_set_ne (by omega)]; exact h3, fun h => by rw [List.getElem?_set_ne (by omega)]; exact h0 h, fun i hi hik => ?_⟩
 obtain ⟨tv', cv', a1, a2, a3, a4, a5⟩ := h4 i hi hik
 exact ⟨tv', cv', by rw [List.getElem?_set_ne (by omega)]; exact a1, by rw [List.getElem?_set_ne (by omega)]; exact a2, by rw [List.getElem?_set_ne (by omega)]; exact a3, fun h => (a4 h).apart hgr hty, a5⟩
theorem MidRow.setC {w W : World} {B : Nat} {tv cv u : Value} {k q cap : Nat} {ps : List Part} (h : MidRow w W B (.slice (some ⟨q, 0, none⟩) ps.length cap) k ps tv cv) (hk : k < ps.length) (hp : PartOf W B tv u ps[k]) : CopyRow w (W.setCell ⟨q, k * 3 + 2, none⟩ u) B (.slice (some ⟨q, 0, none⟩) ps.length cap) (k + 1) ps := by
 obtain ⟨L, h1, h2, h3, h0, h4⟩ := h
 have hty : ∀ g, some q = some g -> Typed W g 49 := fun g hg => by injection hg with hg; rw [<- hg]; exact own_typed h1 rfl
 have hgr := set_grown W q (k * 3 + 2) u
 have hl : L.length = ps.length * 3 := h1.1
 refine ⟨_, own_set h1 _ _, fun i hi => ?_⟩
 by_cases e : i = k
 ·subst e
  exact ⟨tv, u, by rw [List.getElem?_set_ne (by omega)]; exact h0 hi, by rw [List.getElem?_set_ne (by omega)]; exact h2, by rw [List.getElem?_set_self (by omega)], fun _ => hp.apart hgr hty, fun h => by omega⟩
 ·obtain ⟨tv', cv', a1, a2, a3, a4, a5⟩ := h4 i hi e
  exact ⟨tv', cv', by rw [List.getElem?_set_ne (by omega)]; exact a1, by rw [List.getElem?_set_ne (by omega)]; exact a2, by rw [List.getElem?_set_ne (by omega)]; exact a3, fun h => (a4 (by omega)).apart hgr hty, fun h => a5 (by omega)⟩
def CpV (B ga q n pk k : Nat) (tv cv : Value) (x : Part) (i : Nat) (v : Value) (W : World) : Prop :=
 match i with
 | 0 | 3 | 6 | 13 => v = .pointer (some ⟨ga, 2, none⟩)
 | 1 | 4 | 7 | 14 => v = .slice (some ⟨q, 0, none⟩) n pk
 | 2 | 5 | 8 | 15 => v = .int .i64 k
 | 9 | 16 | 20 | 23 => v = .pointer (some ⟨q, k * 3, none⟩)
 | 10 | 21 => v = .pointer (some ⟨q, k * 3 + 1, none⟩)
 | 17 | 24 => v = .pointer (some ⟨q, k * 3 + 2, none⟩)
 | 11 => v = tv
 | 18 => v = cv
 | 12 => W.ownsRow B 51 6 v x.tasks.length (x.tasks.flatMap taskCells)
 | 19 => W.ownsRow B 66 2 v x.code.length (x.code.flatMap instrCells)
 | _ => True
theorem cpV_below {B ga q n pk k : Nat} {tv cv : Value} {x : Part} {W W' : World} (hb : Below W.heap.size W W') : ∀ j u, CpV B ga q n pk k tv cv x j u W -> CpV B ga q n pk k tv cv x j u W' := by
 intro j u h
 unfold CpV at h |-
 split at h <;> first | exact h | exact Below.kept h hb | trivial
theorem cpV_part {B ga q n pk k : Nat} {tv cv : Value} {x : Part} {W W' : World} {r : Option Nat} (hg : W.grownBy W' r) (hr : ∀ g, r = some g -> Typed W g 49) : ∀ j u, CpV B ga q n pk k tv cv x j u W -> CpV B ga q n pk k tv cv x j u W' := by
 intro j u h
 unfold CpV at h |-
 split at h <;> first | exact h | exact own_apart h hg hr (by decide) | trivial
def put5 (W : World) (b : Nat) (u0 u1 u2 u3 u4 : Value) : World := ((((W.setCell ⟨b, 0, none⟩ u0).setCell ⟨b, 1, none⟩ u1).setCell ⟨b, 2, none⟩ u2).setCell ⟨b, 3, none⟩ u3).setCell ⟨b, 4, none⟩ u4
theorem put5_at {W : World} {b : Nat} {a0 a1 a2 a3 a4 : Value} {t : TypeId} (h : W.heap[b]? = some (.cells #[a0, a1, a2, a3, a4] t (0, 0))) (u0 u1 u2 u3 u4 : Value) : (put5 W b u0 u1 u2 u3 u4).heap[b]? = some (.cells #[u0, u1, u2, u3, u4] t (0, 0)) :=
 blk_set (blk_set (blk_set (blk_set (blk_set h 0 u0) 1 u1) 2 u2) 3 u3) 4 u4
theorem put5_grown (W : World) (b : Nat) (u0 u1 u2 u3 u4 : Value) : W.grownBy (put5 W b u0 u1 u2 u3 u4) (some b) :=
 grown_trans (grown_trans (grown_trans (grown_trans (set_grown _ _ _ _) (set_grown _ _ _ _)) (set_grown _ _ _ _)) (set_grown _ _ _ _)) (set_grown _ _ _ _)
theorem CopyRow.self {w W : World} {B : Nat} {v : Value} {ps : List Part} (h : CopyRow w W B v ps.length ps) : CopyRow W W B v ps.length ps := by
 obtain ⟨L, h1, h2⟩ := h
 refine ⟨L, h1, fun i hi => ?_⟩
 obtain ⟨tv, cv, a1, a2, a3, a4, -⟩ := h2 i hi
 exact ⟨tv, cv, a1, a2, a3, a4, fun h => by omega⟩
def CqV (B ga : Nat) (wv ov : Value) (c : Config) (i : Nat) (v : Value) (W : World) : Prop :=
 match i with
 | 0 | 6 => v = .pointer (some ⟨ga, 3, none⟩)
 | 3 | 8 => v = .pointer (some ⟨ga, 4, none⟩)
 | 1 => v = wv
 | 4 => v = ov
 | 2 => W.ownsRow B 61 3 v c.windows.length (c.windows.flatMap windowCells)
 | 5 => W.ownsRow B 121 4 v c.ports.length (c.ports.flatMap portCells)
 | _ => True
theorem cqV_below {B ga : Nat} {wv ov : Value} {c : Config} {W W' : World} (hb : Below W.heap.size W W') : ∀ j u, CqV B ga wv ov c j u W -> CqV B ga wv ov c j u W' := by
 intro j u h
 unfold CqV at h |-
 split at h <;> first | exact h | exact Below.kept h hb | trivial
theorem cqV_cfg {B ga : Nat} {wv ov : Value} {c : Config} {W W' : World} {r : Option Nat} (hg : W.grownBy W' r) (hr : ∀ g, r = some g -> Typed W g 26) : ∀ j u, CqV B ga wv ov c j u W -> CqV B ga wv ov c j u W' := by
 intro j u h
 unfold CqV at h |-
 split at h <;> first | exact h | exact own_apart h hg hr (by decide) | trivial
set_option maxRecDepth 100000 in
set_option maxHeartbeats 2000000 in
theorem copyC_any (c : Config) (v : Value) (w : World) (hc : CfgV w v c) :
  Calls Tryz.prog 36 #[v] w fun e w' => ∃ pv wv ov, e = .returned (.agg #[.int .i64 c.frame, .int .i64 c.quiet, pv, wv, ov]) /\ CopyOf w' w.heap.size pv wv ov c /\ Below w.heap.size w w' := by
 obtain ⟨pv, wv, ov, rfl, hcfg⟩ := hc
 have HSZ := Lib.hid (cfg_sizes hcfg)
 obtain ⟨qa, qk, ra, rk, sa, sk, rfl, rfl, rfl⟩ := hcfg.shape
 have HP := Lib.hid hcfg
 obtain ⟨wa, ga, hw_wa, hg_ga, hb_wa, hk_ga, hs_wa⟩ := alloc_all w (.cells #[.int .i64 c.frame, .int .i64 c.quiet, .slice qa c.parts.length qk, .slice ra c.windows.length rk, .slice sa c.ports.length sk] 26)
 obtain ⟨wb, gb, hw_wb, hg_gb, hb_wb, hk_gb, hs_wb⟩ := alloc_all wa (.cells #[.int .i64 0, .int .i64 0, .slice none 0 0, .slice none 0 0, .slice none 0 0] 26)
 have hka := keep_at hk_ga hb_wb
 have HB := Lib.hid (bthen hb_wa hb_wb)
 have HK := Lib.hid (And.intro hka hk_gb)
 have HG := Lib.hid (show w.heap.size <= ga /\ ga < gb /\ gb < wb.heap.size by omega)
 have y2 := BlockIs.of hka 2 _ rfl
 have f2 := thaw hka 2
 obtain ⟨L, hL1, hL2, hL3, hL4⟩ := parts_raw hcfg.parts
 replace hL3 := hL3.ext (Ext.below HB.out)
 have HL := Lib.hid (And.intro hL1 (And.intro hL2 (And.intro hL3 hL4)))
 have hcs : c.parts.length * 56 <= 140737488351232 /\ c.parts.length <= qk /\ qk <= maxLen := by obtain ⟨a, cap, e, h1, h2, h3, -⟩ := hcfg.parts; injection e with _ _ e; subst e; exact ⟨h1, h2, h3⟩
 have HCS := Lib.hid hcs
 have hcl : c.parts.length <= 2513169434845 := by omega
 clear hcfg hka hk_ga hk_gb hb_wa hb_wb hL1 hL2 hL3 hL4 hcs
 go_enter Tryz.func36, Tryz.ntmps36
 go_wp2_with fail
 rw [<- hw_wa, <- hw_wb]
 (try rw [<- hs_wa])
 (try rw [<- hg_gb])
 (try rw [<- hg_ga])
 clear hw_wa hw_wb hg_ga hg_gb hs_wa hs_wb
 refine (clonePart_raw _ c.parts.length _ _ _ L rfl HL.out.2.2.1 HL.out.1 HL.out.2.1 HCS.out.1 HCS.out.2.1 HCS.out.2.2).mono ?_
 rintro e w1 ⟨v', rfl, hown, hb1⟩
 obtain ⟨pa, pk, rfl⟩ := own_shape hown
 have hk1 := keep_at HK.out.1 hb1
 have hz1 := keep_at HK.out.2 hb1
 obtain ⟨wc, hwc⟩ : ∃ wc, wc = w1.setCell ⟨ga, 2, none⟩ (.slice pa c.parts.length pk) := ⟨_, rfl⟩
 have hk2 := blk_set hk1 2 (.slice pa c.parts.length pk)
 have hg2 := set_grown w1 ga 2 (.slice pa c.parts.length pk)
 have hz2 := set_at (q := ga) (j := 2) (.slice pa c.parts.length pk) hz1 (by have := HG.out; omega)
 rw [<- hwc] at hk2 hg2 hz2
 have hty : ∀ q, some ga = some q -> Typed w1 q 26 := fun q hq => by injection hq with hq; rw [<- hq]; exact ⟨_, hk1⟩
 have HR : Hid (CopyRow w wc w.heap.size (.slice pa c.parts.length pk) 0 c.parts) := Lib.hid ⟨L, own_apart (own_lower hown HB.out.size) hg2 hty (by decide), fun i hi => by
  obtain ⟨tv, cv, a1, a2, a3, a4⟩ := HL.out.2.2.2 i hi
  exact ⟨tv, cv, a1, a2, a3, fun h => by omega, fun _ => a4⟩⟩
 have HB2 := Lib.hid (bput (bthen HB.out hb1) hg2 HG.out.1 (Nat.le_refl _))
 have HK2 : Hid (wc.heap[ga]? = some (.cells #[.int .i64 c.frame, .int .i64 c.quiet, .slice pa c.parts.length pk, .slice ra c.windows.length rk, .slice sa c.ports.length sk] 26 (0, 0))) := Lib.hid hk2
 have HZ2 := Lib.hid hz2
 have y2' := BlockIs.of hk1 2 _ rfl
 have f2' := thaw hk1 2
 have HY2 := Lib.hid (BlockIs.of HK2.out 2 _ rfl)
 have u2 := HY2.out
 clear hown hb1 hk1 hz1 hk2 hg2 hz2 hty y2 f2 HK
 go_wp2_with (first | (rw [<- hwc]; clear hwc) | fail)
 clear y2' f2' u2
 go_loopw [11] (fun i wr => ∃ k : Nat, k <= c.parts.length /\ i = .int .i64 k /\ Hid (wr.heap[ga]? = some (.cells #[.int .i64 c.frame, .int .i64 c.quiet, .slice pa c.parts.length pk, .slice ra c.windows.length rk, .slice sa c.ports.length sk] 26 (0, 0))) /\ Hid (wr.heap[gb]? = some (.cells #[.int .i64 0, .int .i64 0, .slice none 0 0, .slice none 0 0, .slice none 0 0] 26 (0, 0))) /\ Hid (CopyRow w wr w.heap.size (.slice pa c.parts.length pk) k c.parts) /\ Below w.heap.size w wr) (fun i _ => c.parts.length - (intOf i).toNat)
 case atStart => exact ⟨0, by omega, rfl, HK2, HZ2, HR, HB2.out⟩
 case round =>
  obtain ⟨k, hk, rfl, HKr, HZr, HRr, hB⟩ := hrel
  have HBr := Lib.hid hB
  clear hB
  by_cases hlt : k < c.parts.length
  ·obtain ⟨L', l1, l2⟩ := HRr.out
   obtain ⟨q, cap', e, hq0, hq1, hq2⟩ := ownsRow_some l1 (by omega)
   injection e with e _ e'
   subst e; subst e'
   obtain ⟨tv, cv, a1, a2, a3, -, a5⟩ := l2 k hlt
   obtain ⟨curq, hcurq⟩ := own_typed l1 (g := q) rfl
   have hl' : L'.length = c.parts.length * 3 := l1.1
   have p1 : wr.cell? ⟨q, k * 3 + 1, none⟩ = some tv := by rw [l1.cellAt _ (by omega)]; exact a2
   have p2 : wr.cell? ⟨q, k * 3 + 2, none⟩ = some cv := by rw [l1.cellAt _ (by omega)]; exact a3
   have hpi := a5 (Nat.le_refl k)
   have HPI := Lib.hid hpi
   obtain ⟨ta, tk, rfl, -⟩ := hpi.tasks
   obtain ⟨ca, ck, rfl, -⟩ := hpi.code
   have g2 := BlockIs.of HKr.out 2 _ rfl
   have q1 := thaw hcurq (k * 3 + 1)
   have q2 := thaw hcurq (k * 3 + 2)
   have HQT := Lib.hid (show Typed wr q 49 from ⟨_, hcurq⟩)
   have HQ0 := Lib.hid hq0
   have HMR0 : Hid (MidRow w wr w.heap.size (.slice (some ⟨q, 0, none⟩) c.parts.length pk) k c.parts (.slice ta c.parts[k].tasks.length tk) (.slice ca c.parts[k].code.length ck)) := Lib.hid ⟨L', l1, a2, a3, fun _ => a1, fun i hi hik => l2 i hi⟩
   clear l1 l2 a1 a2 a3 a5 hpi hcurq hl' hq0 hq1 hq2
   have HMR : Hid (MidRow w wr.drew w.heap.size (.slice (some ⟨q, 0, none⟩) c.parts.length pk) k c.parts (.slice ta c.parts[k].tasks.length tk) (.slice ca c.parts[k].code.length ck)) := HMR0
   go_wp2_with fail
   refine region_each_lit rfl (by simp) (by kernel_rfl) (fun _ => none) (CpV w.heap.size ga q c.parts.length pk k (.slice ta c.parts[k].tasks.length tk) (.slice ca c.parts[k].code.length ck) c.parts[k]) 22 (fun bb W => Below w.heap.size w W /\ W.heap[ga]? = some (.cells #[.int .i64 c.frame, .int .i64 c.quiet, .slice (some ⟨q, 0, none⟩) c.parts.length pk, .slice ra c.windows.length rk, .slice sa c.ports.length sk] 26 (0, 0)) /\ W.heap[gb]? = some (.cells #[.int .i64 0, .int .i64 0, .slice none 0 0, .slice none 0 0, .slice none 0 0] 26 (0, 0)) /\ ∃ tv, MidRow w W w.heap.size (.slice (some ⟨q, 0, none⟩) c.parts.length pk) k c.parts tv (.slice ca c.parts[k].code.length ck) /\ (bb = true -> tv = .slice ta c.parts[k].tasks.length tk) /\ (bb = false -> W.ownsRow w.heap.size 51 6 tv c.parts[k].tasks.length (c.parts[k].tasks.flatMap taskCells))) ⟨below_drew HBr.out, HKr.out, HZr.out, _, HMR.out, fun _ => rfl, fun h => by simp at h⟩ ?_ ?_
   ·simp only [List.dropLast, List.map, putAll, Act.put, Each, List.setIfInBounds_toArray, List.set_cons_succ, List.set_cons_zero, Nat.reduceAdd, Nat.reduceEqDiff, reduceIte]
    refine ⟨?_, ?_, ?_, ?_, ?_, ?_, ?_, ?_, ?_, ?_, ?_, ?_, ?_, ?_, ?_, ?_, ?_, ?_, ?_, ?_, ?_, ?_, ?_, ?_, ?_, trivial⟩
    ·intro vs W bb hb1 hb2 hG hr K' hK
     have HK := Lib.hid hK
     clear hK
     go_simp
     exact HK.out _ W hG (fun _ _ _ _ _ h => h) rfl
    ·intro vs W bb hb1 hb2 hG hr K' hK
     have r0 : vs 0 = .pointer (some ⟨ga, 2, none⟩) := hr 0 rfl (.inl trivial)
     have z0 : W.cell? ⟨ga, 2, none⟩ = some (.slice (some ⟨q, 0, none⟩) c.parts.length pk) := BlockIs.of hG.2.1 2 _ rfl
     simp only [r0] at hK |-
     have HK := Lib.hid hK
     clear hK
     go_simp
     exact HK.out _ W hG (fun _ _ _ _ _ h => h) rfl
    ·intro vs W bb hb1 hb2 hG hr K' hK
     have HK := Lib.hid hK
     clear hK
     go_simp
     exact HK.out _ W hG (fun _ _ _ _ _ h => h) rfl
    ·intro vs W bb hb1 hb2 hG hr K' hK
     have HK := Lib.hid hK
     clear hK
     go_simp
     exact HK.out _ W hG (fun _ _ _ _ _ h => h) rfl
    ·intro vs W bb hb1 hb2 hG hr K' hK
     have r3 : vs 3 = .pointer (some ⟨ga, 2, none⟩) := hr 3 rfl (.inl trivial)
     have z0 : W.cell? ⟨ga, 2, none⟩ = some (.slice (some ⟨q, 0, none⟩) c.parts.length pk) := BlockIs.of hG.2.1 2 _ rfl
     simp only [r3] at hK |-
     have HK := Lib.hid hK
     clear hK
     go_simp
     exact HK.out _ W hG (fun _ _ _ _ _ h => h) rfl
    ·intro vs W bb hb1 hb2 hG hr K' hK
     have HK := Lib.hid hK
     clear hK
     go_simp
     exact HK.out _ W hG (fun _ _ _ _ _ h => h) rfl
    ·intro vs W bb hb1 hb2 hG hr K' hK
     have HK := Lib.hid hK
     clear hK
     go_simp
     exact HK.out _ W hG (fun _ _ _ _ _ h => h) rfl
    ·intro vs W bb hb1 hb2 hG hr K' hK
     have r6 : vs 6 = .pointer (some ⟨ga, 2, none⟩) := hr 6 rfl (.inl trivial)
     have z0 : W.cell? ⟨ga, 2, none⟩ = some (.slice (some ⟨q, 0, none⟩) c.parts.length pk) := BlockIs.of hG.2.1 2 _ rfl
     simp only [r6] at hK |-
     have HK := Lib.hid hK
     clear hK
     go_simp
     exact HK.out _ W hG (fun _ _ _ _ _ h => h) rfl
    ·intro vs W bb hb1 hb2 hG hr K' hK
     have HK := Lib.hid hK
     clear hK
     go_simp
     exact HK.out _ W hG (fun _ _ _ _ _ h => h) rfl
    ·intro vs W bb hb1 hb2 hG hr K' hK
     have r7 : vs 7 = .slice (some ⟨q, 0, none⟩) c.parts.length pk := hr 7 rfl (.inl trivial)
     have r8 : vs 8 = .int .i64 k := hr 8 rfl (.inl trivial)
     simp only [r7, r8] at hK |-
     have HK := Lib.hid hK
     clear hK
     go_simp
     exact HK.out _ W hG (fun _ _ _ _ _ h => h) rfl
    ·intro vs W bb hb1 hb2 hG hr K' hK
     have r9 : vs 9 = .pointer (some ⟨q, k * 3, none⟩) := hr 9 rfl (.inl trivial)
     simp only [r9] at hK |-
     have HK := Lib.hid hK
     clear hK
     go_simp
     exact HK.out _ W hG (fun _ _ _ _ _ h => h) rfl
    ·intro vs W bb hb1 hb2 hG hr K' hK
     have r10 : vs 10 = .pointer (some ⟨q, k * 3 + 1, none⟩) := hr 10 rfl (.inl trivial)
     have hbb : bb = true := hb2 _ rfl rfl
     have z0 : W.cell? ⟨q, k * 3 + 1, none⟩ = some (.slice ta c.parts[k].tasks.length tk) := by obtain ⟨-, -, -, tv, hm, e1, -⟩ := hG; rw [<- e1 hbb]; exact (hm.cells hlt).1
     simp only [r10] at hK |-
     have HK := Lib.hid hK
     clear hK
     go_simp
     exact HK.out _ W hG (fun _ _ _ _ _ h => h) rfl
    ·intro vs W bb hb1 hb2 hG hr K' hK
     have r11 : vs 11 = .slice ta c.parts[k].tasks.length tk := hr 11 rfl (.inl trivial)
     simp only [r11] at hK |-
     have HK := Lib.hid hK
     have HG := Lib.hid hG
     clear hK hG hr
     go_simp
     go_at_call 59
     refine (cloneTask_any _ c.parts[k].tasks W (HPI.out.tasks.ext (Ext.below HG.out.1))).mono ?_
     rintro e w' ⟨v', rfl, hown, hb⟩
     obtain ⟨g1, g2', g3, tv, hm, e1, e2⟩ := HG.out
     exact HK.out v' w' ⟨bthen g1 hb, keep_at g2' hb, keep_at g3 hb, tv, hm.below hb, e1, fun h => Below.kept (e2 h) hb⟩ (fun j u _ _ _ h => cpV_below hb j u h) (own_lower hown g1.size)
    ·intro vs W bb hb1 hb2 hG hr K' hK
     have HK := Lib.hid hK
     clear hK
     go_simp
     exact HK.out _ W hG (fun _ _ _ _ _ h => h) rfl
    ·intro vs W bb hb1 hb2 hG hr K' hK
     have r13 : vs 13 = .pointer (some ⟨ga, 2, none⟩) := hr 13 rfl (.inl trivial)
     have z0 : W.cell? ⟨ga, 2, none⟩ = some (.slice (some ⟨q, 0, none⟩) c.parts.length pk) := BlockIs.of hG.2.1 2 _ rfl
     simp only [r13] at hK |-
     have HK := Lib.hid hK
     clear hK
     go_simp
     exact HK.out _ W hG (fun _ _ _ _ _ h => h) rfl
    ·intro vs W bb hb1 hb2 hG hr K' hK
     have HK := Lib.hid hK
     clear hK
     go_simp
     exact HK.out _ W hG (fun _ _ _ _ _ h => h) rfl
    ·intro vs W bb hb1 hb2 hG hr K' hK
     have r14 : vs 14 = .slice (some ⟨q, 0, none⟩) c.parts.length pk := hr 14 rfl (.inl trivial)
     have r15 : vs 15 = .int .i64 k := hr 15 rfl (.inl trivial)
     simp only [r14, r15] at hK |-
     have HK := Lib.hid hK
     clear hK
     go_simp
     exact HK.out _ W hG (fun _ _ _ _ _ h => h) rfl
    ·intro vs W bb hb1 hb2 hG hr K' hK
     have r16 : vs 16 = .pointer (some ⟨q, k * 3, none⟩) := hr 16 rfl (.inl trivial)
     simp only [r16] at hK |-
     have HK := Lib.hid hK
     clear hK
     go_simp
     exact HK.out _ W hG (fun _ _ _ _ _ h => h) rfl
    ·intro vs W bb hb1 hb2 hG hr K' hK
     have r17 : vs 17 = .pointer (some ⟨q, k * 3 + 2, none⟩) := hr 17 rfl (.inl trivial)
     have z0 : W.cell? ⟨q, k * 3 + 2, none⟩ = some (.slice ca c.parts[k].code.length ck) := by obtain ⟨-, -, -, tv, hm, -⟩ := hG; exact (hm.cells hlt).2.1
     simp only [r17] at hK |-
     have HK := Lib.hid hK
     clear hK
     go_simp
     exact HK.out _ W hG (fun _ _ _ _ _ h => h) rfl
    ·intro vs W bb hb1 hb2 hG hr K' hK
     have r18 : vs 18 = .slice ca c.parts[k].code.length ck := hr 18 rfl (.inl trivial)
     simp only [r18] at hK |-
     have HK := Lib.hid hK
     have HG := Lib.hid hG
     clear hK hG hr
     go_simp
     go_at_call 60
     refine (cloneInstr_any _ c.parts[k].code W (HPI.out.code.ext (Ext.below HG.out.1))).mono ?_
     rintro e w' ⟨v', rfl, hown, hb⟩
     obtain ⟨g1, g2', g3, tv, hm, e1, e2⟩ := HG.out
     exact HK.out v' w' ⟨bthen g1 hb, keep_at g2' hb, keep_at g3 hb, tv, hm.below hb, e1, fun h => Below.kept (e2 h) hb⟩ (fun j u _ _ _ h => cpV_below hb j u h) (own_lower hown g1.size)
    ·intro vs W bb hb1 hb2 hG hr K' hK
     have r1 : vs 1 = .slice (some ⟨q, 0, none⟩) c.parts.length pk := hr 1 rfl (.inl trivial)
     have r2 : vs 2 = .int .i64 k := hr 2 rfl (.inl trivial)
     simp only [r1, r2] at hK |-
     have HK := Lib.hid hK
     clear hK
     go_simp
     exact HK.out _ W hG (fun _ _ _ _ _ h => h) rfl
    ·intro vs W bb hb1 hb2 hG hr K' hK
     have r20 : vs 20 = .pointer (some ⟨q, k * 3, none⟩) := hr 20 rfl (.inl trivial)
     simp only [r20] at hK |-
     have HK := Lib.hid hK
     clear hK
     go_simp
     exact HK.out _ W hG (fun _ _ _ _ _ h => h) rfl
    ·intro vs W bb hb1 hb2 hG hr K' hK
     have r21 : vs 21 = .pointer (some ⟨q, k * 3 + 1, none⟩) := hr 21 rfl (.inl trivial)
     have r12 : W.ownsRow w.heap.size 51 6 (vs 12) c.parts[k].tasks.length (c.parts[k].tasks.flatMap taskCells) := hr 12 rfl (.inl trivial)
     obtain ⟨ta', tk', h12⟩ := own_shape r12
     rw [h12] at r12
     obtain ⟨g1, g2', g3, tv, hm, e1, e2⟩ := hG
     obtain ⟨z1, -, z3, z4⟩ := hm.cells hlt
     have z3 := z3 (k * 3 + 1)
     have hty : ∀ g, some q = some g -> Typed W g 49 := fun g hg => by injection hg with hg; rw [<- hg]; exact z4
     have hgr := set_grown W q (k * 3 + 1) (.slice ta' c.parts[k].tasks.length tk')
     simp only [r21, h12] at hK |-
     have HK := Lib.hid hK
     have HX := Lib.hid (And.intro g1 (And.intro g2' (And.intro g3 (And.intro hm (And.intro r12 (And.intro hty hgr))))))
     clear hK hr g1 g2' g3 hm e1 e2 r12 hty hgr z4
     go_simp
     obtain ⟨g1, g2', g3, hm, r12, hty, hgr⟩ := HX.out
     exact HK.out undef _ ⟨bput g1 hgr HQ0.out (Nat.le_refl _), typed_apart g2' hgr hty (by decide), typed_apart g3 hgr hty (by decide), _, hm.setT hlt, fun h => by simp at h, fun _ => own_apart r12 hgr hty (by decide)⟩ (fun j u _ _ _ h => cpV_part hgr hty j u h) trivial
    ·intro vs W bb hb1 hb2 hG hr K' hK
     have r4 : vs 4 = .slice (some ⟨q, 0, none⟩) c.parts.length pk := hr 4 rfl (.inl trivial)
     have r5 : vs 5 = .int .i64 k := hr 5 rfl (.inl trivial)
     simp only [r4, r5] at hK |-
     have HK := Lib.hid hK
     clear hK
     go_simp
     exact HK.out _ W hG (fun _ _ _ _ _ h => h) rfl
    ·intro vs W bb hb1 hb2 hG hr K' hK
     have r23 : vs 23 = .pointer (some ⟨q, k * 3, none⟩) := hr 23 rfl (.inl trivial)
     simp only [r23] at hK |-
     have HK := Lib.hid hK
     clear hK
     go_simp
     exact HK.out _ W hG (fun _ _ _ _ _ h => h) rfl
   ·intro vs W hG hV
    simp only [List.getLast, List.dropLast, List.map, putAll, Act.put, List.setIfInBounds_toArray, List.set_cons_succ, List.set_cons_zero, Nat.reduceAdd]
    have r24 : vs 24 = .pointer (some ⟨q, k * 3 + 2, none⟩) := hV 24 (by simp only [List.dropLast, List.length_cons, List.length_nil]; omega) rfl
    have r19 : W.ownsRow w.heap.size 66 2 (vs 19) c.parts[k].code.length (c.parts[k].code.flatMap instrCells) := hV 19 (by simp only [List.dropLast, List.length_cons, List.length_nil]; omega) rfl
    obtain ⟨ca', ck', h19⟩ := own_shape r19
    rw [h19] at r19
    obtain ⟨g1, g2', g3, tv, hm, -, e2⟩ := hG
    obtain ⟨-, z2, z3, z4⟩ := hm.cells hlt
    have z3 := z3 (k * 3 + 2)
    have hty : ∀ g, some q = some g -> Typed W g 49 := fun g hg => by injection hg with hg; rw [<- hg]; exact z4
    have hgr := set_grown W q (k * 3 + 2) (.slice ca' c.parts[k].code.length ck')
    simp only [r24, h19]
    have HX : Hid (Below w.heap.size w (W.setCell ⟨q, k * 3 + 2, none⟩ (.slice ca' c.parts[k].code.length ck')) /\ _ /\ _ /\ CopyRow w (W.setCell ⟨q, k * 3 + 2, none⟩ (.slice ca' c.parts[k].code.length ck')) w.heap.size _ (k + 1) c.parts) := Lib.hid ⟨bput g1 hgr HQ0.out (Nat.le_refl _), typed_apart g2' hgr hty (by decide), typed_apart g3 hgr hty (by decide), hm.setC hlt ⟨e2 rfl, r19⟩⟩
    clear hV g1 g2' g3 hm e2 r19 hty hgr z4 r24 h19
    go_simp
    obtain ⟨wd, hwd⟩ : ∃ wd, wd = W.setCell ⟨q, k * 3 + 2, none⟩ (.slice ca' c.parts[k].code.length ck') := ⟨_, rfl⟩
    rw [<- hwd] at HX |-
    clear hwd z2 z3
    go_wp2_with fail
    go_roundw
    case rel => exact ⟨k + 1, by omega, by go_num, Lib.hid HX.out.2.1, Lib.hid HX.out.2.2.1, Lib.hid HX.out.2.2.2, HX.out.1⟩
    case measure => simp [intOf]; omega
  ·obtain rfl : k = c.parts.length := by omega
   go_wp2_with fail
   refine region_each_lit rfl (by simp) (by kernel_rfl) (fun _ => none) (CqV w.heap.size ga (.slice ra c.windows.length rk) (.slice sa c.ports.length sk) c) 7 (fun bb W => Below w.heap.size w W /\ W.heap[gb]? = some (.cells #[.int .i64 0, .int .i64 0, .slice none 0 0, .slice none 0 0, .slice none 0 0] 26 (0, 0)) /\ CopyRow w W w.heap.size (.slice pa c.parts.length pk) c.parts.length c.parts /\ ∃ wv, W.heap[ga]? = some (.cells #[.int .i64 c.frame, .int .i64 c.quiet, .slice pa c.parts.length pk, wv, .slice sa c.ports.length sk] 26 (0, 0)) /\ (bb = true -> wv = .slice ra c.windows.length rk) /\ (bb = false -> W.ownsRow w.heap.size 61 3 wv c.windows.length (c.windows.flatMap windowCells))) ⟨below_drew HBr.out, HZr.out, HRr.out, _, HKr.out, fun _ => rfl, fun h => by simp at h⟩ ?_ ?_
   ·simp only [List.dropLast, List.map, putAll, Act.put, Each, List.setIfInBounds_toArray, List.set_cons_succ, List.set_cons_zero, Nat.reduceAdd, Nat.reduceEqDiff, reduceIte]
    refine ⟨?_, ?_, ?_, ?_, ?_, ?_, ?_, ?_, ?_, trivial⟩
    ·intro vs W bb hb1 hb2 hG hr K' hK
     have HK := Lib.hid hK
     clear hK
     go_simp
     exact HK.out _ W hG (fun _ _ _ _ _ h => h) rfl
    ·intro vs W bb hb1 hb2 hG hr K' hK
     have r0 : vs 0 = .pointer (some ⟨ga, 3, none⟩) := hr 0 rfl (.inl trivial)
     have hbb : bb = true := hb2 _ rfl rfl
     have z0 : W.cell? ⟨ga, 3, none⟩ = some (.slice ra c.windows.length rk) := by obtain ⟨-, -, -, wv, hm, e1, -⟩ := hG; rw [<- e1 hbb]; exact BlockIs.of hm 3 _ rfl
     simp only [r0] at hK |-
     have HK := Lib.hid hK
     clear hK
     go_simp
     exact HK.out _ W hG (fun _ _ _ _ _ h => h) rfl
    ·intro vs W bb hb1 hb2 hG hr K' hK
     have r1 : vs 1 = .slice ra c.windows.length rk := hr 1 rfl (.inl trivial)
     simp only [r1] at hK |-
     have HK := Lib.hid hK
     have HG' := Lib.hid hG
     clear hK hG hr
     go_simp
     go_at_call 61
     refine (cloneWindow_any _ c.windows W (HP.out.windows.ext (Ext.below HG'.out.1))).mono ?_
     rintro e w' ⟨v', rfl, hown, hb⟩
     obtain ⟨g1, g2', g3, wv, hm, e1, e2⟩ := HG'.out
     exact HK.out v' w' ⟨bthen g1 hb, keep_at g2' hb, g3.below hb, wv, keep_at hm hb, e1, fun h => Below.kept (e2 h) hb⟩ (fun j u _ _ _ h => cqV_below hb j u h) (own_lower hown g1.size)
    ·intro vs W bb hb1 hb2 hG hr K' hK
     have HK := Lib.hid hK
     clear hK
     go_simp
     exact HK.out _ W hG (fun _ _ _ _ _ h => h) rfl
    ·intro vs W bb hb1 hb2 hG hr K' hK
     have r3 : vs 3 = .pointer (some ⟨ga, 4, none⟩) := hr 3 rfl (.inl trivial)
     have z0 : W.cell? ⟨ga, 4, none⟩ = some (.slice sa c.ports.length sk) := by obtain ⟨-, -, -, wv, hm, -⟩ := hG; exact BlockIs.of hm 4 _ rfl
     simp only [r3] at hK |-
     have HK := Lib.hid hK
     clear hK
     go_simp
     exact HK.out _ W hG (fun _ _ _ _ _ h => h) rfl
    ·intro vs W bb hb1 hb2 hG hr K' hK
     have r4 : vs 4 = .slice sa c.ports.length sk := hr 4 rfl (.inl trivial)
     simp only [r4] at hK |-
     have HK := Lib.hid hK
     have HG' := Lib.hid hG
     clear hK hG hr
     go_simp
     go_at_call 62
     refine (clonePort_any _ c.ports W (HP.out.ports.ext (Ext.below HG'.out.1))).mono ?_
     rintro e w' ⟨v', rfl, hown, hb⟩
     obtain ⟨g1, g2', g3, wv, hm, e1, e2⟩ := HG'.out
     exact HK.out v' w' ⟨bthen g1 hb, keep_at g2' hb, g3.below hb, wv, keep_at hm hb, e1, fun h => Below.kept (e2 h) hb⟩ (fun j u _ _ _ h => cqV_below hb j u h) (own_lower hown g1.size)
    ·intro vs W bb hb1 hb2 hG hr K' hK
     have HK := Lib.hid hK
     clear hK
     go_simp
     exact HK.out _ W hG (fun _ _ _ _ _ h => h) rfl
    ·intro vs W bb hb1 hb2 hG hr K' hK
     have r6 : vs 6 = .pointer (some ⟨ga, 3, none⟩) := hr 6 rfl (.inl trivial)
     have r2 : W.ownsRow w.heap.size 61 3 (vs 2) c.windows.length (c.windows.flatMap windowCells) := hr 2 rfl (.inl trivial)
     obtain ⟨wa', wk', h2⟩ := own_shape r2
     rw [h2] at r2
     obtain ⟨g1, g2', g3, wv, hm, e1, e2⟩ := hG
     obtain rfl := e1 (hb1 trivial)
     have z1 := BlockIs.of hm 3 _ rfl
     have z3 := thaw hm 3
     have hty : ∀ g, some ga = some g -> Typed W g 26 := fun g hg => by injection hg with hg; rw [<- hg]; exact ⟨_, hm⟩
     have hgr := set_grown W ga 3 (.slice wa' c.windows.length wk')
     simp only [r6, h2] at hK |-
     have HK := Lib.hid hK
     have HX := Lib.hid (And.intro g1 (And.intro g2' (And.intro g3 (And.intro hm (And.intro r2 (And.intro hty hgr))))))
     clear hK hr g1 g2' g3 hm e1 e2 r2 hty hgr
     go_simp
     obtain ⟨g1, g2', g3, hm, r2, hty, hgr⟩ := HX.out
     exact HK.out undef _ ⟨bput g1 hgr HG.out.1 (Nat.le_refl _), set_at _ g2' (by have := HG.out; omega), g3.apart hgr hty (by decide) (by decide) (by decide), _, blk_set hm 3 _, fun h => by simp at h, fun _ => own_apart r2 hgr hty (by decide)⟩ (fun j u _ _ _ h => cqV_cfg hgr hty j u h) trivial
    ·intro vs W bb hb1 hb2 hG hr K' hK
     have HK := Lib.hid hK
     clear hK
     go_simp
     exact HK.out _ W hG (fun _ _ _ _ _ h => h) rfl
   ·intro vs W hG hV
    simp only [List.getLast, List.dropLast, List.map, putAll, Act.put, List.setIfInBounds_toArray, List.set_cons_succ, List.set_cons_zero, Nat.reduceAdd]
    have r8 : vs 8 = .pointer (some ⟨ga, 4, none⟩) := hV 8 (by simp only [List.dropLast, List.length_cons, List.length_nil]; omega) rfl
    have r5 : W.ownsRow w.heap.size 121 4 (vs 5) c.ports.length (c.ports.flatMap portCells) := hV 5 (by simp only [List.dropLast, List.length_cons, List.length_nil]; omega) rfl
    obtain ⟨oa', ok', h5⟩ := own_shape r5
    rw [h5] at r5
    obtain ⟨g1, g2', g3, wv, hm, -, e2⟩ := hG
    have e2 := e2 rfl
    obtain ⟨wa', wk', rfl⟩ := own_shape e2
    have z2 := BlockIs.of hm 4 _ rfl
    have z3 := thaw hm 4
    have hty : ∀ g, some ga = some g -> Typed W g 26 := fun g hg => by injection hg with hg; rw [<- hg]; exact ⟨_, hm⟩
    have hgr := set_grown W ga 4 (.slice oa' c.ports.length ok')
    simp only [r8, h5]
    obtain ⟨wd, hwd⟩ : ∃ wd, wd = W.setCell ⟨ga, 4, none⟩ (.slice oa' c.ports.length ok') := ⟨_, rfl⟩
    have d1 := bput g1 hgr HG.out.1 (Nat.le_refl _)
    have d2 := set_at (q := ga) (j := 4) (.slice oa' c.ports.length ok') g2' (by have := HG.out; omega)
    have d3 := g3.apart hgr hty (by decide) (by decide) (by decide)
    have d4 := blk_set hm 4 (.slice oa' c.ports.length ok')
    have d5 := own_apart e2 hgr hty (by decide)
    have d6 := own_apart r5 hgr hty (by decide)
    rw [<- hwd] at d1 d2 d3 d4 d5 d6
    have d4 : wd.heap[ga]? = some (.cells #[.int .i64 c.frame, .int .i64 c.quiet, .slice pa c.parts.length pk, .slice wa' c.windows.length wk', .slice oa' c.ports.length ok'] 26 (0, 0)) := d4
    have HX := Lib.hid (And.intro d1 (And.intro d3 (And.intro d5 d6)))
    have HK5 := Lib.hid (And.intro d2 d4)
    clear hV g1 g2' g3 hm e2 r5 hty hgr r8 h5 d1 d2 d3 d4 d5 d6
    go_simp
    rw [<- hwd]
    clear hwd z2 z3
    have c0 := BlockIs.of HK5.out.2 0 _ rfl
    have c1 := BlockIs.of HK5.out.2 1 _ rfl
    have c2 := BlockIs.of HK5.out.2 2 _ rfl
    have c3 := BlockIs.of HK5.out.2 3 _ rfl
    have c4 := BlockIs.of HK5.out.2 4 _ rfl
    have hkz := HK5.out.1
    obtain ⟨we, hw_we⟩ : ∃ we, we = put5 wd gb (.int .i64 c.frame) (.int .i64 c.quiet) (.slice pa c.parts.length pk) (.slice wa' c.windows.length wk') (.slice oa' c.ports.length ok') := ⟨_, rfl⟩
    have hk_we := put5_at hkz (.int .i64 c.frame) (.int .i64 c.quiet) (.slice pa c.parts.length pk) (.slice wa' c.windows.length wk') (.slice oa' c.ports.length ok')
    have hg_we := put5_grown wd gb (.int .i64 c.frame) (.int .i64 c.quiet) (.slice pa c.parts.length pk) (.slice wa' c.windows.length wk') (.slice oa' c.ports.length ok')
    rw [<- hw_we] at hk_we hg_we
    unfold put5 at hw_we
    have o_we_0 := BlockIs.of hkz 0 _ rfl
    have o_we_1 := BlockIs.of hkz 1 _ rfl
    have o_we_2 := BlockIs.of hkz 2 _ rfl
    have o_we_3 := BlockIs.of hkz 3 _ rfl
    have o_we_4 := BlockIs.of hkz 4 _ rfl
    have f_we := thaw hkz
    have e_we_0 := BlockIs.of hk_we 0 _ rfl
    have e_we_1 := BlockIs.of hk_we 1 _ rfl
    have e_we_2 := BlockIs.of hk_we 2 _ rfl
    have e_we_3 := BlockIs.of hk_we 3 _ rfl
    have e_we_4 := BlockIs.of hk_we 4 _ rfl
    have HTY : Hid (∀ g, some gb = some g -> Typed wd g 26) := Lib.hid (fun g hg => by injection hg with hg; rw [<- hg]; exact ⟨_, hkz⟩)
    have HGW := Lib.hid hg_we
    clear hk_we hg_we hkz
    go_wp2_with fail
    rw [<- hw_we]
    clear hw_we o_we_0 o_we_1 o_we_2 o_we_3 o_we_4 f_we c0 c1 c2 c3 c4
    refine bodyPost_ret (v := .agg #[.int .i64 c.frame, .int .i64 c.quiet, .slice pa c.parts.length pk, .slice wa' c.windows.length wk', .slice oa' c.ports.length ok']) (by simp [results, Tryz.results36, go_sem, e_we_0, e_we_1, e_we_2, e_we_3, e_we_4]) rfl ⟨_, _, _, rfl, ?_, bput HX.out.1 HGW.out (by have := HG.out; omega) (Nat.le_refl _)⟩
    exact ⟨(HX.out.2.1.apart HGW.out HTY.out (by decide) (by decide) (by decide)).self, own_apart HX.out.2.2.1 HGW.out HTY.out (by decide), own_apart HX.out.2.2.2 HGW.out HTY.out (by decide), HSZ.out⟩
end Go.Proofs.YtooeeiiiflfckaaGreat
