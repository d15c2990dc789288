/- Samples, queues and what a port carries values in. -/
import Derived.Test.YtkjjfidbmkpljaaRng2
set_option linter.unusedVariables false
set_option linter.unusedSimpArgs false
namespace Go.Proofs.Ytkjjfidbmkpljaa
open Go.RowKit

theorem zeros64 (k : Int) : (#[vi 0, vi 0, vi 0, vi 0, vi 0, vi 0, vi 0, vi 0, vi 0, vi 0, vi 0, vi 0, vi 0, vi 0, vi 0, vi 0, vi 0, vi 0, vi 0, vi 0, vi 0, vi 0, vi 0, vi 0, vi 0, vi 0, vi 0, vi 0, vi 0, vi 0, vi 0, vi 0, vi 0, vi 0, vi 0, vi 0, vi 0, vi 0, vi 0, vi 0, vi 0, vi 0, vi 0, vi 0, vi 0, vi 0, vi 0, vi 0, vi 0, vi 0, vi 0, vi 0, vi 0, vi 0, vi 0, vi 0, vi 0, vi 0, vi 0, vi 0, vi 0, vi 0, vi 0, vi 0, vi k, vi 0, vi 0] : Array Value) = ((List.replicate 64 (0 : Int)).map vi ++ [vi k, vi 0, vi 0]).toArray := rfl
set_option maxRecDepth 100000 in
set_option maxHeartbeats 2000000 in
theorem ringNew_any (k : Nat) (w : World) (h1 : 1 ≤ k) (h2 : k ≤ 64) :
    Calls Try.prog 52 #[.int .i64 k] w fun e w' => e = .returned (.tuple #[.pointer (some ⟨w.heap.size, 0, none⟩), .int .i64 0]) ∧ RingAt w' w.heap.size k [] ∧ Below w.heap.size w w' := by
  have c1 : decide ((k : Int) < 1) = false := decide_eq_false (by omega)
  have c2 : decide ((64 : Int) < (k : Int)) = false := decide_eq_false (by omega)
  go_enter Try.func52, Try.ntmps52
  go_wp2_with fail
  go_ret2
  refine ⟨rfl, ⟨List.replicate 64 0, 0, ⟨?_, rfl, h1, h2, by omega, by simp, fun i hi => by simp at hi⟩⟩, balloc _ _⟩
  have h := blk_new w (.cells ((List.replicate 64 (0 : Int)).map vi ++ [vi k, vi 0, vi 0]).toArray 139)
  exact h
set_option maxRecDepth 100000 in
set_option maxHeartbeats 2000000 in
theorem queNew_any (k : Nat) (w : World) (h1 : 1 ≤ k) (h2 : k ≤ 8) :
    Calls Try.prog 29 #[.int .i64 k] w fun e w' => ∃ qb rb, e = .returned (.tuple #[.pointer (some ⟨qb, 0, none⟩), .int .i64 0]) ∧ w.heap.size ≤ rb ∧ w'.heap[qb]? = some (.cells #[.pointer (some ⟨rb, 0, none⟩)] 129 (0, 0)) ∧ w.heap.size ≤ qb ∧ RingAt w' rb k [] ∧ Below w.heap.size w w' := by
  have c1 : decide ((k : Int) < 1) = false := decide_eq_false (by omega)
  have c2 : decide ((8 : Int) < (k : Int)) = false := decide_eq_false (by omega)
  go_enter Try.func29, Try.ntmps29
  go_wp2_with fail
  refine (ringNew_any k w h1 (by omega)).mono ?_
  rintro e w1 ⟨rfl, hr, hb⟩
  have HR := Lib.hid hr
  have HB := Lib.hid hb
  obtain ⟨rb, hrb⟩ : ∃ rb, rb = w.heap.size := ⟨_, rfl⟩
  rw [← hrb] at HR ⊢
  clear hr hb
  go_wp2_with fail
  go_ret2
  subst hrb
  exact ⟨w1.heap.size, w.heap.size, rfl, Nat.le_refl _, blk_new _ _, HB.out.size, HR.out.keep ((Below.heap_alloc _ _ _ HR.out.lt)), bthen HB.out (balloc _ _)⟩
set_option maxRecDepth 100000 in
set_option maxHeartbeats 2000000 in
theorem queWrite_any (qb rb k : Nat) (q : List Int) (x : Int) (w : World) (hq : w.heap[qb]? = some (.cells #[.pointer (some ⟨rb, 0, none⟩)] 129 (0, 0))) (hr : RingAt w rb k q) :
    Calls Try.prog 98 #[.pointer (some ⟨qb, 0, none⟩), .int .i64 x] w fun e w' => e = .returned (.bool (decide (q.length = k))) ∧ RingAt w' rb k (pushQ k q x) ∧ w.grownBy w' (some rb) := by
  have x0 := BlockIs.of hq 0 _ rfl
  have HR := Lib.hid hr
  clear hq hr
  go_enter Try.func98, Try.ntmps98
  go_wp2_with fail
  refine (ring_push rb k q x w HR.out).mono ?_
  rintro e w1 ⟨old, rfl, hr, hg⟩
  have HS := Lib.hid (And.intro hr hg)
  obtain ⟨d, hd⟩ : ∃ d, d = decide (q.length = k) := ⟨_, rfl⟩
  rw [← hd]
  have HE := Lib.hid hd
  unfold vi
  clear hr hg hd
  go_wp2_with fail
  go_ret
  exact ⟨by rw [← HE.out]; rfl, HS.out⟩
set_option maxRecDepth 100000 in
set_option maxHeartbeats 2000000 in
theorem queRead_any (qb rb k : Nat) (q : List Int) (w : World) (hq : w.heap[qb]? = some (.cells #[.pointer (some ⟨rb, 0, none⟩)] 129 (0, 0))) (hr : RingAt w rb k q) :
    Calls Try.prog 92 #[.pointer (some ⟨qb, 0, none⟩)] w fun e w' => e = .returned (.tuple #[.int .i64 (q.headD 0), .bool (!q.isEmpty)]) ∧ RingAt w' rb k q.tail ∧ w.grownBy w' (some rb) := by
  have x0 := BlockIs.of hq 0 _ rfl
  have HR := Lib.hid hr
  clear hq hr
  go_enter Try.func92, Try.ntmps92
  go_wp2_with fail
  refine (ring_pop rb k q w HR.out).mono ?_
  rintro e w1 ⟨rfl, hr, hg⟩
  have HS := Lib.hid (And.intro hr hg)
  obtain ⟨d, hd⟩ : ∃ d, d = !q.isEmpty := ⟨_, rfl⟩
  obtain ⟨z, hz⟩ : ∃ z, z = q.headD 0 := ⟨_, rfl⟩
  rw [← hd, ← hz]
  have HE := Lib.hid (And.intro hd hz)
  unfold vi
  clear hr hg hd hz
  go_wp2_with fail
  go_ret2
  exact ⟨by rw [← HE.out.1, ← HE.out.2]; rfl, HS.out⟩
/-- A sample: the block g holds the last value, if there is one. -/
def SmpAt (W : World) (g : Nat) (q : List Int) : Prop := q.length ≤ 1 ∧ W.heap[g]? = some (.cells #[.int .i64 (q.headD 0), .bool (!q.isEmpty)] 124 (0, 0))
theorem smpNew_any (w : World) : Calls Try.prog 28 #[] w fun e w' => e = .returned (.pointer (some ⟨w.heap.size, 0, none⟩)) ∧ SmpAt w' w.heap.size [] ∧ Below w.heap.size w w' := by
  go_enter Try.func28, Try.ntmps28
  go_wp2_with fail
  go_ret
  exact ⟨rfl, ⟨by simp, blk_new _ _⟩, balloc _ _⟩
set_option maxRecDepth 100000 in
set_option maxHeartbeats 1000000 in
theorem smpRead_any (g : Nat) (q : List Int) (w : World) (h : SmpAt w g q) : Calls Try.prog 87 #[.pointer (some ⟨g, 0, none⟩)] w fun e w' => e = .returned (.tuple #[.int .i64 (q.headD 0), .bool (!q.isEmpty)]) ∧ ∃ m, w' = w.drewN m := by
  have h0 := BlockIs.of h.2 0 _ rfl
  have h1 := BlockIs.of h.2 1 _ rfl
  obtain ⟨d, hd⟩ : ∃ d, d = !q.isEmpty := ⟨_, rfl⟩
  obtain ⟨z, hz⟩ : ∃ z, z = q.headD 0 := ⟨_, rfl⟩
  rw [← hd, ← hz]
  rw [← hz] at h0
  rw [← hd] at h1
  clear h hd hz
  go_enter Try.func87, Try.ntmps87
  go_wp2_with fail
  go_quiet (fail)
  go_wp2_with fail
  go_ret2
  exact ⟨rfl, _, rfl⟩
set_option maxRecDepth 100000 in
set_option maxHeartbeats 1000000 in
theorem smpWrite_any (g : Nat) (q : List Int) (x : Int) (w : World) (h : SmpAt w g q) : Calls Try.prog 88 #[.pointer (some ⟨g, 0, none⟩), .int .i64 x] w fun e w' => e = .returned (.tuple #[]) ∧ SmpAt w' g [x] ∧ w.grownBy w' (some g) := by
  have h0 := BlockIs.of h.2 0 _ rfl
  have h1 := BlockIs.of h.2 1 _ rfl
  have f0 := thaw h.2 0
  have f1 := thaw h.2 1
  have HN := Lib.hid (show SmpAt ((w.setCell ⟨g, 0, none⟩ (.int .i64 x)).setCell ⟨g, 1, none⟩ (.bool true)) g [x] from ⟨by simp, blk_set (blk_set h.2 0 (.int .i64 x)) 1 (.bool true)⟩)
  clear h
  go_enter Try.func88, Try.ntmps88
  go_wp2_with fail
  go_end0
  exact ⟨rfl, HN.out, grown_trans (set_grown _ _ _ _) (set_grown _ _ _ _)⟩
/-- What a port carries values in: a sample, or a queue with its ring. -/
inductive Car where
  | smp (g : Nat)
  | que (qb rb : Nat)
def Car.val : Car → Value
  | .smp g => .iface 76 (.agg #[.pointer (some ⟨g, 0, none⟩)])
  | .que qb _ => .iface 85 (.agg #[.pointer (some ⟨qb, 0, none⟩)])
/-- The block that its writes change. -/
def Car.blk : Car → Nat
  | .smp g => g
  | .que _ rb => rb
def CarAt (W : World) (c : Car) (k : Nat) (q : List Int) : Prop := match c with
  | .smp g => SmpAt W g q
  | .que qb rb => W.heap[qb]? = some (.cells #[.pointer (some ⟨rb, 0, none⟩)] 129 (0, 0)) ∧ RingAt W rb k q
def putC (c : Car) (k : Nat) (q : List Int) (x : Int) : List Int := match c with
  | .smp _ => [x]
  | .que _ _ => pushQ k q x
def dropC (c : Car) (k : Nat) (q : List Int) : Bool := match c with
  | .smp _ => false
  | .que _ _ => decide (q.length = k)
def takeC (c : Car) (q : List Int) : List Int := match c with
  | .smp _ => q
  | .que _ _ => q.tail
theorem smpPut_any (g : Nat) (q : List Int) (x : Int) (w : World) (h : SmpAt w g q) : Calls Try.prog 90 #[.agg #[.pointer (some ⟨g, 0, none⟩)], .int .i64 x] w fun e w' => e = .returned (.bool false) ∧ SmpAt w' g [x] ∧ w.grownBy w' (some g) := by
  have hb := balloc w (.cells #[.pointer (some ⟨g, 0, none⟩)] 76)
  have HB := Lib.hid (below_grown hb (some g))
  have HS := Lib.hid (show SmpAt (w.alloc (.cells #[.pointer (some ⟨g, 0, none⟩)] 76)) g q from ⟨h.1, keep_at h.2 hb⟩)
  clear h hb
  go_enter Try.func90, Try.ntmps90
  go_wp2_with fail
  refine (smpWrite_any g q x _ HS.out).mono ?_
  rintro e w1 ⟨rfl, hs, hg⟩
  have HR := Lib.hid (And.intro hs (grown_trans HB.out hg))
  clear hs hg
  go_wp2_with fail
  go_ret
  exact ⟨rfl, HR.out⟩
theorem smpPeek_any (g : Nat) (q : List Int) (w : World) (h : SmpAt w g q) : Calls Try.prog 89 #[.agg #[.pointer (some ⟨g, 0, none⟩)]] w fun e w' => e = .returned (.int .i64 (q.headD 0)) ∧ Below w.heap.size w w' := by
  have hb := balloc w (.cells #[.pointer (some ⟨g, 0, none⟩)] 76)
  have HB := Lib.hid hb
  have HS := Lib.hid (show SmpAt (w.alloc (.cells #[.pointer (some ⟨g, 0, none⟩)] 76)) g q from ⟨h.1, keep_at h.2 hb⟩)
  clear h hb
  go_enter Try.func89, Try.ntmps89
  go_wp2_with fail
  refine (smpRead_any g q _ HS.out).mono ?_
  rintro e w1 ⟨rfl, m, rfl⟩
  obtain ⟨d, hd⟩ : ∃ d, d = !q.isEmpty := ⟨_, rfl⟩
  obtain ⟨z, hz⟩ : ∃ z, z = q.headD 0 := ⟨_, rfl⟩
  rw [← hd, ← hz]
  have HE := Lib.hid hz
  clear hd hz
  go_wp2_with fail
  go_ret
  exact ⟨by rw [← HE.out]; rfl, below_drewN HB.out _⟩
theorem quePut_any (qb rb k : Nat) (q : List Int) (x : Int) (w : World) (hq : w.heap[qb]? = some (.cells #[.pointer (some ⟨rb, 0, none⟩)] 129 (0, 0))) (hr : RingAt w rb k q) :
    Calls Try.prog 96 #[.agg #[.pointer (some ⟨qb, 0, none⟩)], .int .i64 x] w fun e w' => e = .returned (.bool (decide (q.length = k))) ∧ RingAt w' rb k (pushQ k q x) ∧ w.grownBy w' (some rb) := by
  have hb := balloc w (.cells #[.pointer (some ⟨qb, 0, none⟩)] 85)
  have HB := Lib.hid (below_grown hb (some rb))
  have HS := Lib.hid (And.intro (keep_at hq hb) (hr.keep (hb.block _ hr.lt)))
  clear hq hr hb
  go_enter Try.func96, Try.ntmps96
  go_wp2_with fail
  refine (queWrite_any qb rb k q x _ HS.out.1 HS.out.2).mono ?_
  rintro e w1 ⟨rfl, hs, hg⟩
  have HR := Lib.hid (And.intro hs (grown_trans HB.out hg))
  obtain ⟨d, hd⟩ : ∃ d, d = decide (q.length = k) := ⟨_, rfl⟩
  rw [← hd]
  have HE := Lib.hid hd
  clear hs hg hd
  go_wp2_with fail
  go_ret
  exact ⟨by rw [← HE.out]; rfl, HR.out⟩
theorem quePeek_any (qb rb k : Nat) (q : List Int) (w : World) (hq : w.heap[qb]? = some (.cells #[.pointer (some ⟨rb, 0, none⟩)] 129 (0, 0))) (hr : RingAt w rb k q) :
    Calls Try.prog 95 #[.agg #[.pointer (some ⟨qb, 0, none⟩)]] w fun e w' => e = .returned (.int .i64 (q.headD 0)) ∧ Below w.heap.size w w' := by
  have hb := balloc w (.cells #[.pointer (some ⟨qb, 0, none⟩)] 85)
  have HB := Lib.hid hb
  have hk := hr.len
  have HR := Lib.hid (hr.keep (hb.block _ hr.lt))
  have x0 := BlockIs.of (keep_at hq hb) 0 _ rfl
  clear hq hr hb
  go_enter Try.func95, Try.ntmps95
  go_wp2_with fail
  refine (ring_all rb k q _ HR.out).mono ?_
  rintro e w1 ⟨v, rfl, hs, hb⟩
  have HB1 := Lib.hid (bthen HB.out hb)
  have HV := Lib.hid (hs.ints (by omega))
  clear hs hb
  obtain ⟨a, c, rfl, -, -, -, hc⟩ := id HV.out
  rcases q with _ | ⟨y, r⟩
  · clear hc
    go_wp2_with fail
    go_ret
    exact ⟨rfl, HB1.out⟩
  · obtain ⟨b, off, rfl, hcc⟩ := hc (by simp)
    have y0 := hcc 0 (by simp)
    unfold IntAt at y0
    simp only [Nat.zero_mul, Nat.add_zero, List.getElem_cons_zero] at y0
    have c1 : (0 : Int) < (((y :: r).length : Nat) : Int) := by simp
    clear hc hcc
    go_wp2_with fail
    go_ret
    exact ⟨rfl, HB1.out⟩
end Go.Proofs.Ytkjjfidbmkpljaa
