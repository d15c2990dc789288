/- Several texts of this claim as one. -/
import Derived.Test.YtbkhnlacabaagaaChkA
import Derived.Test.YtbkhnlacabaagaaLibA
import Derived.Laws.OwnMore
import Derived.Deep.RegionLaw
import Derived.Deep.RegionHeld3
import Derived.Deep.DeepCutAuto
/- What the functions of package frame answer: Owner, At, Share. -/
set_option linter.unusedVariables false
set_option linter.unusedSimpArgs false
namespace Go.Proofs.Ytbkhnlacabaagaa
open Go.RowKit

theorem ret_pair {k l : IntKind} {p : Int × Int} {x y : Int} (h : p = (x, y)) : Ending.returned (.tuple #[.int k x, .int l y]) = .returned (.tuple #[.int k p.1, .int l p.2]) := by rw [h]
theorem ownerAt_step (t : Int) (ws : List Window) (k : Nat) (h : k < ws.length) :
    ownerAt t (ws.drop k) = if ws[k].from_ ≤ t ∧ t < ws[k].to_ then ws[k].part else ownerAt t (ws.drop (k + 1)) := by
  rw [List.drop_eq_getElem_cons h]
  rfl
theorem shareOf_step (p : Int) (ws : List Window) (k : Nat) (h : k < ws.length) :
    shareOf p (ws.drop k) = (if ws[k].part = p then ws[k].to_ - ws[k].from_ else 0) + shareOf p (ws.drop (k + 1)) := by
  rw [List.drop_eq_getElem_cons h]
  rfl

theorem winsFrom_all (f n : Int) (ws : List Window) : ∀ (e : Int), winsFrom f n e ws = true → ∀ x ∈ ws, e ≤ x.from_ ∧ x.from_ < x.to_ ∧ x.to_ ≤ f ∧ 0 ≤ x.part ∧ x.part < n := by
  induction ws with
  | nil => intro e _ x hx; simp at hx
  | cons y r ih =>
    intro e h x hx
    unfold winsFrom at h
    simp only [Bool.and_eq_true, decide_eq_true_eq] at h
    rcases List.mem_cons.1 hx with rfl | hx
    · exact h.1
    · have := ih _ h.2 x hx
      omega
theorem check_ok {c : Config} (h : checkCfg c = 0) : 1 ≤ c.frame ∧ c.frame ≤ 256 ∧ 1 ≤ c.quiet ∧ c.quiet ≤ 16 ∧ 1 ≤ c.parts.length ∧ c.parts.length ≤ 8 ∧ c.windows.length ≤ 32 ∧ winsFrom c.frame c.parts.length 0 c.windows = true := by
  unfold checkCfg at h
  split at h
  · omega
  split at h
  · omega
  split at h
  · omega
  split at h
  · omega
  rename_i h1 h2 h3 h4
  have h4 : windowsMay c = true := by simpa using h4
  unfold windowsMay at h4
  simp only [Bool.and_eq_true, decide_eq_true_eq] at h4
  refine ⟨by omega, by omega, by omega, by omega, by omega, by omega, h4.2, h4.1⟩


end Go.Proofs.Ytbkhnlacabaagaa
/- The configuration that the laws try themselves on. -/
set_option linter.unusedVariables false
set_option linter.unusedSimpArgs false
namespace Go.Proofs.Ytbkhnlacabaagaa
open Go.RowKit

def plainCfg : Config := ⟨10, 2, [⟨1, [⟨0, 10, 10, 2, 4, 1⟩], [⟨1, 7⟩, ⟨9, 0⟩]⟩, ⟨0, [⟨1, 5, 5, 3, 3, 0⟩], []⟩], [⟨0, 5, 0⟩, ⟨6, 9, 1⟩], [⟨1, 0, 1, 2⟩]⟩
theorem task_of {W : World} {b o : Nat} {cs : Array Value} (h : BlockIs W b cs) (x : Task) (h0 : cs[o]? = some (.int .i64 x.kind)) (h1 : cs[o + 1]? = some (.int .i64 x.period)) (h2 : cs[o + 2]? = some (.int .i64 x.deadline)) (h3 : cs[o + 3]? = some (.int .i64 x.clow)) (h4 : cs[o + 4]? = some (.int .i64 x.chigh)) (h5 : cs[o + 5]? = some (.int .i64 x.prio)) : TaskAt W b o x :=
  ⟨h _ _ h0, h _ _ h1, h _ _ h2, h _ _ h3, h _ _ h4, h _ _ h5⟩
theorem plain_at {W : World} {b1 b2 b3 b4 b5 b6 : Nat}
    (h1 : BlockIs W b1 #[.int .i64 0, .int .i64 10, .int .i64 10, .int .i64 2, .int .i64 4, .int .i64 1])
    (h2 : BlockIs W b2 #[.int .i64 1, .int .i64 7, .int .i64 9, .int .i64 0])
    (h3 : BlockIs W b3 #[.int .i64 1, .int .i64 5, .int .i64 5, .int .i64 3, .int .i64 3, .int .i64 0])
    (h4 : BlockIs W b4 #[.int .i64 1, .slice (some ⟨b1, 0, none⟩) 1 1, .slice (some ⟨b2, 0, none⟩) 2 2, .int .i64 0, .slice (some ⟨b3, 0, none⟩) 1 1, .slice none 0 0])
    (h5 : BlockIs W b5 #[.int .i64 0, .int .i64 5, .int .i64 0, .int .i64 6, .int .i64 9, .int .i64 1])
    (h6 : BlockIs W b6 #[.int .i64 1, .int .i64 0, .int .i64 1, .int .i64 2]) :
    CfgV W (.agg #[.int .i64 10, .int .i64 2, .slice (some ⟨b4, 0, none⟩) 2 2, .slice (some ⟨b5, 0, none⟩) 2 2, .slice (some ⟨b6, 0, none⟩) 1 1]) plainCfg := by
  have t1 : TasksV W (.slice (some ⟨b1, 0, none⟩) 1 1) [⟨0, 10, 10, 2, 4, 1⟩] := slice1 (by decide) (task_of h1 _ rfl rfl rfl rfl rfl rfl)
  have t3 : TasksV W (.slice (some ⟨b3, 0, none⟩) 1 1) [⟨1, 5, 5, 3, 3, 0⟩] := slice1 (by decide) (task_of h3 _ rfl rfl rfl rfl rfl rfl)
  have c2 : CodeV W (.slice (some ⟨b2, 0, none⟩) 2 2) [⟨1, 7⟩, ⟨9, 0⟩] := slice2 (by decide) (show InstrAt W b2 0 ⟨1, 7⟩ from ⟨h2 0 _ rfl, h2 1 _ rfl⟩) (show InstrAt W b2 2 ⟨9, 0⟩ from ⟨h2 2 _ rfl, h2 3 _ rfl⟩)
  have p1 : PartAt W b4 0 ⟨1, [⟨0, 10, 10, 2, 4, 1⟩], [⟨1, 7⟩, ⟨9, 0⟩]⟩ := ⟨h4 0 _ rfl, _, _, h4 1 _ rfl, h4 2 _ rfl, ⟨t1, c2⟩⟩
  have p2 : PartAt W b4 3 ⟨0, [⟨1, 5, 5, 3, 3, 0⟩], []⟩ := ⟨h4 3 _ rfl, _, _, h4 4 _ rfl, h4 5 _ rfl, ⟨t3, slice0 _ _ _ _⟩⟩
  have w1 : WindowAt W b5 0 ⟨0, 5, 0⟩ := ⟨h5 0 _ rfl, h5 1 _ rfl, h5 2 _ rfl⟩
  have w2 : WindowAt W b5 3 ⟨6, 9, 1⟩ := ⟨h5 3 _ rfl, h5 4 _ rfl, h5 5 _ rfl⟩
  have o1 : PortAt W b6 0 ⟨1, 0, 1, 2⟩ := ⟨h6 0 _ rfl, h6 1 _ rfl, h6 2 _ rfl, h6 3 _ rfl⟩
  exact ⟨_, _, _, rfl, ⟨slice2 (by decide) p1 p2, slice2 (by decide) w1 w2, slice1 (by decide) o1⟩⟩
end Go.Proofs.Ytbkhnlacabaagaa
/- Copying a slice onto a row of the call's own. -/
set_option linter.unusedVariables false
set_option linter.unusedSimpArgs false
namespace Go.Proofs.Ytbkhnlacabaagaa
open Go.RowKit

theorem lt6 {j : Nat} (h : j < 6) : j = 0 ∨ j = 1 ∨ j = 2 ∨ j = 3 ∨ j = 4 ∨ j = 5 := by omega
theorem told_task : Told TaskAt 6 where
  has h j hj := by
    obtain ⟨h0, h1, h2, h3, h4, h5⟩ := h
    rcases lt6 hj with rfl | rfl | rfl | rfl | rfl | rfl
    · exact IntAt.has h0
    · exact IntAt.has h1
    · exact IntAt.has h2
    · exact IntAt.has h3
    · exact IntAt.has h4
    · exact IntAt.has h5
  move h _ hm := by
    obtain ⟨h0, h1, h2, h3, h4, h5⟩ := h
    exact ⟨hm 0 _ (by decide) h0, hm 1 _ (by decide) h1, hm 2 _ (by decide) h2, hm 3 _ (by decide) h3, hm 4 _ (by decide) h4, hm 5 _ (by decide) h5⟩
theorem told_instr : Told InstrAt 2 where
  has h j hj := by
    obtain ⟨h0, h1⟩ := h
    rcases (show j = 0 ∨ j = 1 by omega) with rfl | rfl
    · exact IntAt.has h0
    · exact IntAt.has h1
  move h _ hm := by
    obtain ⟨h0, h1⟩ := h
    exact ⟨hm 0 _ (by decide) h0, hm 1 _ (by decide) h1⟩
theorem told_window : Told WindowAt 3 where
  has h j hj := by
    obtain ⟨h0, h1, h2⟩ := h
    rcases (show j = 0 ∨ j = 1 ∨ j = 2 by omega) with rfl | rfl | rfl
    · exact IntAt.has h0
    · exact IntAt.has h1
    · exact IntAt.has h2
  move h _ hm := by
    obtain ⟨h0, h1, h2⟩ := h
    exact ⟨hm 0 _ (by decide) h0, hm 1 _ (by decide) h1, hm 2 _ (by decide) h2⟩
theorem told_port : Told PortAt 4 where
  has h j hj := by
    obtain ⟨h0, h1, h2, h3⟩ := h
    rcases (show j = 0 ∨ j = 1 ∨ j = 2 ∨ j = 3 by omega) with rfl | rfl | rfl | rfl
    · exact IntAt.has h0
    · exact IntAt.has h1
    · exact IntAt.has h2
    · exact IntAt.has h3
  move h _ hm := by
    obtain ⟨h0, h1, h2, h3⟩ := h
    exact ⟨hm 0 _ (by decide) h0, hm 1 _ (by decide) h1, hm 2 _ (by decide) h2, hm 3 _ (by decide) h3⟩
end Go.Proofs.Ytbkhnlacabaagaa
/- Events: how they lie in memory; law0's functions at events. -/
set_option linter.unusedVariables false
set_option linter.unusedSimpArgs false
namespace Go.Proofs.Ytbkhnlacabaagaa
open Go.RowKit

structure Event where
  kind : Int
  part : Int
  task : Int
  value : Int
deriving DecidableEq
def EventAt (w : World) (b o : Nat) (x : Event) : Prop := IntAt w b o x.kind ∧ IntAt w b (o + 1) x.part ∧ IntAt w b (o + 2) x.task ∧ IntAt w b (o + 3) x.value
theorem EventAt.ext {w w' : World} (e : Ext w w') {b o : Nat} {x : Event} (h : EventAt w b o x) : EventAt w' b o x := ⟨h.1.ext e, h.2.1.ext e, h.2.2.1.ext e, h.2.2.2.ext e⟩
def EventsV (w : World) (v : Value) (xs : List Event) : Prop := SliceAt EventAt 4 32 w v xs
theorem EventsV.ext {w w' : World} (e : Ext w w') {v : Value} {xs : List Event} (h : EventsV w v xs) : EventsV w' v xs := SliceAt.ext (fun _ _ _ => EventAt.ext e) h
theorem told_event : Told EventAt 4 where
  has h j hj := by
    obtain ⟨h0, h1, h2, h3⟩ := h
    rcases (show j = 0 ∨ j = 1 ∨ j = 2 ∨ j = 3 by omega) with rfl | rfl | rfl | rfl
    · exact IntAt.has h0
    · exact IntAt.has h1
    · exact IntAt.has h2
    · exact IntAt.has h3
  move h _ hm := by
    obtain ⟨h0, h1, h2, h3⟩ := h
    exact ⟨hm 0 _ (by decide) h0, hm 1 _ (by decide) h1, hm 2 _ (by decide) h2, hm 3 _ (by decide) h3⟩
theorem EventsV.shape {w : World} {v : Value} {xs : List Event} (h : EventsV w v xs) : ∃ a cap, v = .slice a xs.length cap := by
  obtain ⟨a, cap, h1, -⟩ := h
  exact ⟨a, cap, h1⟩
theorem infoEvent : (Try.prog.info? 39).map (fun i => (i.zero, i.size, i.bytes)) = some (some (.agg #[.int .i64 0, .int .i64 0, .int .i64 0, .int .i64 0]), 4, 32) := by kernel_rfl
def evCells (x : Event) : List Value := [.int .i64 x.kind, .int .i64 x.part, .int .i64 x.task, .int .i64 x.value]
abbrev evV (x : Event) : Value := .agg #[.int .i64 x.kind, .int .i64 x.part, .int .i64 x.task, .int .i64 x.value]
theorem flatEvent : Flat EventAt 4 evCells where
  pos := by decide
  len _ := rfl
  one x u hu := by simp [evCells] at hu; rcases hu with rfl | rfl | rfl | rfl <;> rfl
  of W b o x h := ⟨h 0 _ rfl, h 1 _ rfl, h 2 _ rfl, h 3 _ rfl⟩
  cell W b o x h j u hu := by
    obtain ⟨h0, h1, h2, h3⟩ := h
    match j, hu with
    | 0, hu => injection hu with hu; subst hu; exact h0
    | 1, hu => injection hu with hu; subst hu; exact h1
    | 2, hu => injection hu with hu; subst hu; exact h2
    | 3, hu => injection hu with hu; subst hu; exact h3
/-- A row of events that is the call's own. -/
def EvRow (W : World) (B : Nat) (v : Value) (es : List Event) : Prop := W.ownsRow B 39 4 v es.length (es.flatMap evCells)
theorem EvRow.snoc {W : World} {B : Nat} {v : Value} {es : List Event} {x : Event} {n : Nat} (hn : n = es.length) (h : W.ownsRow B 39 4 v (n + 1) (es.flatMap evCells ++ evCells x)) : EvRow W B v (es ++ [x]) := by
  subst hn
  unfold EvRow
  rw [List.length_append, List.flatMap_append]
  simpa using h
theorem EvRow.events {W : World} {B : Nat} {v : Value} {es : List Event} (h : EvRow W B v es) (hB : es.length * 32 ≤ 140737488351232) : EventsV W v es := flatEvent.slice h hB
set_option maxRecDepth 100000 in
set_option maxHeartbeats 400000 in
theorem sameEvents_any (v v' : Value) (xs : List Event) (w : World) (hv : EventsV w v xs) (hv' : EventsV w v' xs) :
    Calls Try.prog 19 #[v, v'] w fun e w' => e = .returned (.bool true) ∧ Below w.heap.size w w' := by
  obtain ⟨a, cap, rfl, h2, h3, h4, h5⟩ := hv
  obtain ⟨a', cap', rfl, -, h3', h4', h5'⟩ := hv'
  have H := Lib.hid h5
  have H' := Lib.hid h5'
  have hl : xs.length ≤ 1000000000000000000 := by omega
  clear h5 h5'
  go_enter Try.func19, Try.ntmps19
  go_wp2_with fail
  go_loopw [5] (fun i wr => ∃ k : Nat, k ≤ xs.length ∧ i = .int .i64 k ∧ Below w.heap.size w wr) (fun i _ => xs.length - (intOf i).toNat)
  case atStart => exact ⟨0, by omega, rfl, Below.refl _ _⟩
  case round =>
    obtain ⟨k, hk, rfl, hB⟩ := hrel
    have HB := Lib.hid hB
    clear hB
    by_cases hlt : k < xs.length
    · obtain ⟨b, off, rfl, hc⟩ := H.out (by intro h; rw [h] at hlt; simp at hlt)
      obtain ⟨b', off', rfl, hc'⟩ := H'.out (by intro h; rw [h] at hlt; simp at hlt)
      have q := EventAt.ext (Ext.below HB.out) (hc k hlt)
      have q' := EventAt.ext (Ext.below HB.out) (hc' k hlt)
      obtain ⟨y0, y1, y2, y3⟩ := q
      obtain ⟨q0, q1, q2, q3⟩ := q'
      unfold IntAt at *
      clear hc hc'
      go_wp2_with fail
      go_quiet (fail)
      go_wp2_with fail
      go_roundw
      case rel => exact ⟨k + 1, by omega, by go_num, below_drewN HB.out _⟩
      case measure => simp [intOf]; omega
    · go_wp2_with fail
      go_ret
      exact ⟨rfl, HB.out⟩
end Go.Proofs.Ytbkhnlacabaagaa
