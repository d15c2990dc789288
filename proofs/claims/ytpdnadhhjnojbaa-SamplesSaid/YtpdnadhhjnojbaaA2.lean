/- The value read from a sample is the value last written. -/
import Derived.Test.YtpdnadhhjnojbaaA1
import Derived.Below
import Derived.OneCell
namespace Go.Proofs.Ytpdnadhhjnojbaa
open Go.RowKit

theorem blk_new (w : World) (o : Obj) : (w.alloc o).heap[w.heap.size]? = some o := by
  show (w.heap.push o)[w.heap.size]? = _
  simp
theorem blk_set {w : World} {g : Nat} {cs : Array Value} {t : TypeId} {fr : Nat × Nat} (h : w.heap[g]? = some (.cells cs t fr)) (i : Nat) (v : Value) :
    (w.setCell ⟨g, i, none⟩ v).heap[g]? = some (.cells (cs.setIfInBounds i v) t fr) := by
  show (w.heap.modify g _)[g]? = _
  rw [Array.getElem?_modify, if_pos rfl, h]
  rfl

/-- A sample at block g. -/
def IsS (w : World) (g : Nat) (x : Int) (b : Bool) : Prop := w.heap[g]? = some (.cells #[.int .i64 x, .bool b] 33 (0, 0))

theorem IsS.c0 {w : World} {g : Nat} {x : Int} {b : Bool} (h : IsS w g x b) : w.cell? ⟨g, 0, none⟩ = some (.int .i64 x) := by unfold IsS at h; simp [World.cell?, h]
theorem IsS.c1 {w : World} {g : Nat} {x : Int} {b : Bool} (h : IsS w g x b) : w.cell? ⟨g, 1, none⟩ = some (.bool b) := by unfold IsS at h; simp [World.cell?, h]
theorem IsS.f {w : World} {g : Nat} {x : Int} {b : Bool} (h : IsS w g x b) (k : Nat) : w.frozen? ⟨g, k, none⟩ = false := by unfold IsS at h; simp [World.frozen?, h]
theorem IsS.lt {w : World} {g : Nat} {x : Int} {b : Bool} (h : IsS w g x b) : g < w.heap.size := lt_of_block h

/-- Only block g may have been written. -/
def Only (g : Nat) (w w' : World) : Prop := Below g w w' ∧ (∀ k, k ≠ g → w'.heap[k]? = w.heap[k]?) ∧ w'.heap.size = w.heap.size

theorem new_s (w : World) : Calls Try.prog 5 #[] w fun e w' => e = .returned (.pointer (some ⟨w.heap.size, 0, none⟩)) ∧ IsS w' w.heap.size 0 false ∧ Below w.heap.size w w' ∧ w'.heap.size = w.heap.size + 1 := by
  refine (new_any w).mono ?_
  rintro e w' ⟨rfl, rfl⟩
  refine ⟨rfl, ?_, (Below.refl _ _).alloc (Nat.le_refl _) _, by simp⟩
  exact blk_new _ _

theorem read_s (g : Nat) (x : Int) (b : Bool) (w : World) (h : IsS w g x b) : Calls Try.prog 6 #[.pointer (some ⟨g, 0, none⟩)] w fun e w' => e = .returned (.tuple #[.int .i64 x, .bool b]) ∧ ∃ n, w' = w.drewN n :=
  read_any g x b w h.c0 h.c1

theorem write_s (g : Nat) (x y : Int) (b : Bool) (w : World) (h : IsS w g x b) : Calls Try.prog 7 #[.pointer (some ⟨g, 0, none⟩), .int .i64 y] w fun e w' => e = .returned (.tuple #[]) ∧ IsS w' g y true ∧ Only g w w' := by
  refine (write_any g x y b w h.c0 h.c1 (h.f 0) (h.f 1)).mono ?_
  rintro e w' ⟨rfl, rfl⟩
  refine ⟨rfl, ?_, ?_, ?_, ?_⟩
  · exact blk_set (blk_set h 0 (.int .i64 y)) 1 (.bool true)
  · exact ((Below.refl _ _).setCell (p := ⟨g, 0, none⟩) (Nat.le_refl _) _).setCell (p := ⟨g, 1, none⟩) (Nat.le_refl _) _
  · intro k hk
    rw [Below.heap_setCell _ _ _ _ (by simpa using hk), Below.heap_setCell _ _ _ _ (by simpa using hk)]
  · simp [World.setCell]
theorem below_drewN {B : Nat} {a w : World} (h : Below B a w) (n : Nat) : Below B a (w.drewN n) := ⟨h.os, h.tape, h.output, h.size, h.block⟩
theorem IsS.drewN {w : World} {g : Nat} {x : Int} {b : Bool} (h : IsS w g x b) (n : Nat) : IsS (w.drewN n) g x b := h

set_option maxHeartbeats 400000 in
theorem awake_any (w : World) : Calls Try.prog 8 #[] w fun e w' => e = .returned (.bool true) ∧ Below w.heap.size w w' := by
  go_enter Try.func8, Try.ntmps8
  go_wp2_with fail
  refine (new_s w).mono ?_
  rintro e w1 ⟨rfl, h1, b1, s1⟩
  have B1 := Lib.hid b1; clear b1
  have H1 := Lib.hid h1; have S1 := Lib.hid s1; clear h1 s1
  go_wp2_with fail
  refine (read_s _ _ _ w1 H1.out).mono ?_
  rintro e w2 ⟨rfl, n2, rfl⟩
  go_wp2_with fail
  refine (write_s _ 0 5 false _ (H1.out.drewN n2)).mono ?_
  rintro e w3 ⟨rfl, h3, o3⟩
  have H3 := Lib.hid h3; have O3 := Lib.hid o3; clear h3 o3
  go_wp2_with fail
  refine (read_s _ _ _ w3 H3.out).mono ?_
  rintro e w4 ⟨rfl, n4, rfl⟩
  go_wp2_with fail
  refine (write_s _ 5 6 true _ (H3.out.drewN n4)).mono ?_
  rintro e w5 ⟨rfl, h5, o5⟩
  have H5 := Lib.hid h5; have O5 := Lib.hid o5; clear h5 o5
  go_wp2_with fail
  refine (read_s _ _ _ w5 H5.out).mono ?_
  rintro e w6 ⟨rfl, n6, rfl⟩
  go_wp2_with fail
  refine (num_any _ _).mono ?_
  rintro e w7 ⟨rfl, rfl⟩
  go_wp2_with fail
  go_ret
  have b1 := B1.out
  exact ⟨rfl, ((b1.trans (below_drewN (Below.refl _ _) n2)).trans (O3.out.1.trans (below_drewN (Below.refl _ _) n4))).trans (O5.out.1.trans (below_drewN (Below.refl _ _) n6))⟩
end Go.Proofs.Ytpdnadhhjnojbaa
