/- package jobs, told by what the schedule holds: one predicate on the world. -/
import Derived.Test.YtbkhnlacabaagaaLoc5
import Derived.Test.YtbkhnlacabaagaaLoc6
set_option linter.unusedVariables false
set_option linter.unusedSimpArgs false
namespace Go.Proofs.Ytbkhnlacabaagaa
open Go.RowKit

/-- The schedule at block b: all its blocks are from lo on. -/
def LocIs (W : World) (b lo : Nat) (S : LSt) (m : Int) : Prop := ∃ ps F, LocAt W b lo ps F S ∧ LWf S m
/-- What a method leaves: all below lo, and each row of events that there was. -/
structure Leaves (lo : Nat) (w w' : World) : Prop where
  below : Below lo w w'
  rows : ∀ B v n xs, w.ownsRow B 39 4 v n xs → w'.ownsRow B 39 4 v n xs
theorem Leaves.refl (lo : Nat) (w : World) : Leaves lo w w := ⟨Below.refl _ _, fun _ _ _ _ h => h⟩
theorem Leaves.trans {lo : Nat} {a b c : World} (h : Leaves lo a b) (k : Leaves lo b c) : Leaves lo a c := ⟨h.below.trans k.below, fun B v n xs q => k.rows B v n xs (h.rows B v n xs q)⟩
theorem Leaves.of_below {lo : Nat} {a b : World} (hl : lo ≤ a.heap.size) (h : Below a.heap.size a b) : Leaves lo a b := ⟨h.mono hl, fun B v n xs q => Below.kept q h⟩
theorem Leaves.of {w w' : World} {b lo : Nat} {ps : List Nat} {F : Nat → Prop} {S : LSt} (h : LocAt w b lo ps F S) (hk : Keeps F w w') : Leaves lo w w' :=
  ⟨hk.below (by have := h.fl b h.fb; have := h.lt h.fb; omega) h.fl, fun B v n xs q => Keeps.own q hk (h.evApart q)⟩
theorem LocIs.keep {W W' : World} {b lo : Nat} {S : LSt} {m : Int} (h : LocIs W b lo S m) (hb : Below W.heap.size W W') : LocIs W' b lo S m := by
  obtain ⟨ps, F, h1, h2⟩ := h
  exact ⟨ps, F, h1.keep hb, h2⟩
theorem LocIs.lo {W : World} {b lo : Nat} {S : LSt} {m : Int} (h : LocIs W b lo S m) : lo ≤ W.heap.size := by
  obtain ⟨ps, F, h1, -⟩ := h
  have := h1.fl b h1.fb
  have := h1.lt h1.fb
  omega
theorem LocIs.wf {W : World} {b lo : Nat} {S : LSt} {m : Int} (h : LocIs W b lo S m) : LWf S m := by
  obtain ⟨ps, F, -, h2⟩ := h
  exact h2
theorem new_is (idx : Int) (p : Part) (tv cv : Value) (w : World) (hp : PartIs w tv cv p) (hn : newBad idx p = false) :
    Calls Try.prog 11 #[.int .i64 idx, .agg #[.int .i64 p.level, tv, cv]] w fun e w' => ∃ b, e = .returned (.tuple #[.pointer (some ⟨b, 0, none⟩), .int .i64 0]) ∧ LocIs w' b w.heap.size (newL idx p) 0 ∧ Below w.heap.size w w' := by
  refine (new_any idx p tv cv w hp).mono ?_
  rintro e w' ⟨-, h, hb⟩
  obtain ⟨b, ps, F, rfl, hl⟩ := h hn
  exact ⟨b, rfl, ⟨ps, F, hl, newL_wf hn⟩, hb⟩
theorem new_no (idx : Int) (p : Part) (tv cv : Value) (w : World) (hp : PartIs w tv cv p) (hn : newBad idx p = true) :
    Calls Try.prog 11 #[.int .i64 idx, .agg #[.int .i64 p.level, tv, cv]] w fun e w' => e = .returned (.tuple #[.pointer none, .int .i64 1400]) ∧ Below w.heap.size w w' := by
  refine (new_any idx p tv cv w hp).mono ?_
  rintro e w' ⟨h, -, hb⟩
  exact ⟨h hn, hb⟩
theorem pick_is (b lo : Nat) (S : LSt) (m : Int) (i d now : Int) (w : World) (hl : LocIs w b lo S m)  :
    Calls Try.prog 13 #[.pointer (some ⟨b, 0, none⟩), .int .i64 i, .int .i64 d, .int .i64 now] w fun e w' => ∃ a n c, e = .returned (.tuple #[.slice a n c, .int .i64 (pickErr S i d now)]) ∧ LocIs w' b lo (pickSt S i d now) m ∧ EvRow w' w.heap.size (.slice a n c) (pickEv S i d now) ∧ Leaves lo w w' := by
  obtain ⟨ps, F, h, hw⟩ := hl
  refine (pick_any b lo ps F S m i d now w h hw).mono ?_
  rintro e w' ⟨a, n, c, rfl, F', h1, h2, h3, -, -⟩
  exact ⟨a, n, c, rfl, ⟨ps, F', h1, by first | exact pickSt_wf hw _ _ _ | exact failS_wf hw | exact begS_wf hw hc⟩, h2, Leaves.of h h3⟩
theorem fail_is (b lo : Nat) (S : LSt) (m : Int)  (w : World) (hl : LocIs w b lo S m)  :
    Calls Try.prog 27 #[.pointer (some ⟨b, 0, none⟩)] w fun e w' => ∃ a n c, e = .returned (.tuple #[.slice a n c, .int .i64 (runE S)]) ∧ LocIs w' b lo (failS S) m ∧ EvRow w' w.heap.size (.slice a n c) (failEv S) ∧ Leaves lo w w' := by
  obtain ⟨ps, F, h, hw⟩ := hl
  refine (fail_any b lo ps F S m w h hw).mono ?_
  rintro e w' ⟨a, n, c, rfl, F', h1, h2, h3, -, -⟩
  exact ⟨a, n, c, rfl, ⟨ps, F', h1, by first | exact pickSt_wf hw _ _ _ | exact failS_wf hw | exact begS_wf hw hc⟩, h2, Leaves.of h h3⟩
theorem begin_is (b lo : Nat) (S : LSt) (m : Int) (now : Int) (w : World) (hl : LocIs w b lo S m) (hm : m < 4000000000000000000) (hc : clockB now = true) :
    Calls Try.prog 14 #[.pointer (some ⟨b, 0, none⟩), .int .i64 now] w fun e w' => ∃ a n c, e = .returned (.tuple #[.slice a n c, .int .i64 0]) ∧ LocIs w' b lo (begS S now) (m + 6) ∧ EvRow w' w.heap.size (.slice a n c) (begE S now) ∧ Leaves lo w w' := by
  obtain ⟨ps, F, h, hw⟩ := hl
  refine (begin_any b lo ps F S m now w h hw hm hc).mono ?_
  rintro e w' ⟨a, n, c, rfl, F', h1, h2, h3, -, -⟩
  exact ⟨a, n, c, rfl, ⟨ps, F', h1, by first | exact pickSt_wf hw _ _ _ | exact failS_wf hw | exact begS_wf hw hc⟩, h2, Leaves.of h h3⟩
theorem run_is (b lo : Nat) (S : LSt) (m : Int) (w : World) (hl : LocIs w b lo S m) :
    Calls Try.prog 16 #[.pointer (some ⟨b, 0, none⟩)] w fun e w' => ∃ a n c, e = .returned (.tuple #[vdV (runV S), .slice a n c, .int .i64 (runE S)]) ∧ LocIs w' b lo (runS S) m ∧ EvRow w' w.heap.size (.slice a n c) (runEv S) ∧ Leaves lo w w' := by
  obtain ⟨ps, F, h, hw⟩ := hl
  refine (run_any b lo ps F S m w h hw).mono ?_
  rintro e w' ⟨a, n, c, rfl, F', h1, h2, h3, -, -⟩
  exact ⟨a, n, c, rfl, ⟨ps, F', h1, runS_wf hw⟩, h2, Leaves.of h h3⟩
theorem beginNo_is (b lo : Nat) (S : LSt) (m now : Int) (w : World) (hc : clockB now = false) :
    Calls Try.prog 14 #[.pointer (some ⟨b, 0, none⟩), .int .i64 now] w fun e w' => e = .returned (.tuple #[.slice none 0 0, .int .i64 1400]) ∧ w' = w := beginNo_any b now w hc
theorem ready_is (b lo : Nat) (S : LSt) (m : Int) (w : World) (hl : LocIs w b lo S m) :
    Calls Try.prog 15 #[.pointer (some ⟨b, 0, none⟩)] w fun e w' => e = .returned (.bool (decide (0 < S.js.length))) ∧ w' = w := by
  obtain ⟨ps, F, h, hw⟩ := hl
  exact ready_any b lo ps F S w h
theorem jobs_is (b lo : Nat) (S : LSt) (m : Int) (w : World) (hl : LocIs w b lo S m) :
    Calls Try.prog 17 #[.pointer (some ⟨b, 0, none⟩)] w fun e w' => ∃ v, e = .returned v ∧ JobRow w' w.heap.size v S.js ∧ Below w.heap.size w w' := by
  obtain ⟨ps, F, h, hw⟩ := hl
  exact jobs_any b lo ps F S w h
end Go.Proofs.Ytbkhnlacabaagaa
