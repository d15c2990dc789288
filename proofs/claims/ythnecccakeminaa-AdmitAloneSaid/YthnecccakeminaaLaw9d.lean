/- The law AdmitAlone: a part that has all ticks. -/
import Derived.Test.YthnecccakeminaaLaw9a
import Derived.Test.YthnecccakeminaaAloneP
set_option linter.unusedVariables false
set_option linter.unusedSimpArgs false
namespace Go.Proofs.Ythnecccakeminaa
open Go.RowKit

theorem alone_at {W : World} {b1 b2 b3 : Nat} (F p x y : Int) (h1 : BlockIs W b1 #[.int .i64 0, .int .i64 p, .int .i64 p, .int .i64 1, .int .i64 y, .int .i64 7, .int .i64 0, .int .i64 p, .int .i64 p, .int .i64 1, .int .i64 x, .int .i64 3])
    (h2 : BlockIs W b2 #[.int .i64 1, .slice (some ⟨b1, 0, none⟩) 2 2, .slice none 0 0]) (h3 : BlockIs W b3 #[.int .i64 0, .int .i64 F, .int .i64 0]) :
    CfgIs W (.slice (some ⟨b2, 0, none⟩) 1 1) (.slice (some ⟨b3, 0, none⟩) 1 1) (.slice none 0 0) (aloneCfg F p x y) := by
  have t1 : TasksV W (.slice (some ⟨b1, 0, none⟩) 2 2) [⟨0, p, p, 1, y, 7⟩, ⟨0, p, p, 1, x, 3⟩] := slice2 (by decide) (task_of h1 _ rfl rfl rfl rfl rfl rfl) (task_of h1 _ rfl rfl rfl rfl rfl rfl)
  have p1 : PartAt W b2 0 ⟨1, [⟨0, p, p, 1, y, 7⟩, ⟨0, p, p, 1, x, 3⟩], []⟩ := ⟨h2 0 _ rfl, _, _, h2 1 _ rfl, h2 2 _ rfl, ⟨t1, slice0 _ _ _ _⟩⟩
  have w1 : WindowAt W b3 0 ⟨0, F, 0⟩ := ⟨h3 0 _ rfl, h3 1 _ rfl, h3 2 _ rfl⟩
  exact ⟨slice1 (by decide) p1, slice1 (by decide) w1, slice0 _ _ _ _⟩

set_option maxRecDepth 100000 in
set_option maxHeartbeats 3000000 in
theorem admitAlone_any (a b q : Int) (w : World) : Calls Try.prog 5 #[.int .i64 a, .int .i64 b, .int .i64 q] w fun e w' => e = .returned (.bool true) ∧ Below w.heap.size w w' := by
  obtain ⟨x, hx, hx0, hx1⟩ : ∃ x, bits .and .i64 a 15 = x ∧ 0 ≤ x ∧ x ≤ 15 := ⟨_, rfl, by have := i64_mask 4 (by decide) a; simp at this; omega, by have := i64_mask 4 (by decide) a; simp at this; omega⟩
  obtain ⟨y, hy, hy0, hy1⟩ : ∃ x, bits .and .i64 b 15 = x ∧ 0 ≤ x ∧ x ≤ 15 := ⟨_, rfl, by have := i64_mask 4 (by decide) b; simp at this; omega, by have := i64_mask 4 (by decide) b; simp at this; omega⟩
  obtain ⟨f, hf, hf0, hf1⟩ : ∃ x, bits .and .i64 q 63 = x ∧ 0 ≤ x ∧ x ≤ 63 := ⟨_, rfl, by have := i64_mask 6 (by decide) q; simp at this; omega, by have := i64_mask 6 (by decide) q; simp at this; omega⟩
  obtain ⟨r, hr, hr0, hr1⟩ : ∃ x, bits .and .i64 q 511 = x ∧ 0 ≤ x ∧ x ≤ 511 := ⟨_, rfl, by have := i64_and511 q; omega, by have := i64_and511 q; omega⟩
  obtain ⟨A1, A0⟩ := alone_spec (1 + f) (32 + r) (1 + x) (1 + y) (by omega) (by omega) (by omega) (by omega)
  have A2 := alone_admit (1 + f) (32 + r) (1 + x) (1 + y) (by omega) (by omega) (by omega) (by omega)
  have HA := Lib.hid (And.intro A1 (And.intro A0 A2))
  clear A1 A0 A2
  go_enter Try.func5, Try.ntmps5
  go_wp2_with fail
  refine (awake9_any w).mono ?_
  rintro e w1 ⟨rfl, hb1⟩
  have HB1 := Lib.hid hb1
  clear hb1
  obtain ⟨n, hn⟩ : ∃ n, n = w1.heap.size := ⟨_, rfl⟩
  obtain ⟨wz, hwz⟩ : ∃ wz, wz = (((w1.alloc (.cells #[.int .i64 0, .int .i64 (32 + r), .int .i64 (32 + r), .int .i64 1, .int .i64 (1 + y), .int .i64 7, .int .i64 0, .int .i64 (32 + r), .int .i64 (32 + r), .int .i64 1, .int .i64 (1 + x), .int .i64 3] 44)).alloc
      (.cells #[.int .i64 1, .slice (some ⟨w1.heap.size, 0, none⟩) 2 2, .slice none 0 0] 42)).alloc
      (.cells #[.int .i64 (1 + f), .int .i64 1, .slice (some ⟨w1.heap.size + 1, 0, none⟩) 1 1, .slice (some ⟨w1.heap.size + 1 + 1 + 1, 0, none⟩) 1 1, .slice none 0 0] 26)).alloc
      (.cells #[.int .i64 0, .int .i64 (1 + f), .int .i64 0] 47) := ⟨_, rfl⟩
  have k1 : wz.heap[n]? = some (.cells #[.int .i64 0, .int .i64 (32 + r), .int .i64 (32 + r), .int .i64 1, .int .i64 (1 + y), .int .i64 7, .int .i64 0, .int .i64 (32 + r), .int .i64 (32 + r), .int .i64 1, .int .i64 (1 + x), .int .i64 3] 44 (0, 0)) := by
    rw [hwz, hn]; simp only [heap_push, Array.getElem?_push, Array.size_push]; rw [if_neg (by omega), if_neg (by omega), if_neg (by omega), if_pos trivial]
  have k2 : wz.heap[n + 1]? = some (.cells #[.int .i64 1, .slice (some ⟨n, 0, none⟩) 2 2, .slice none 0 0] 42 (0, 0)) := by
    rw [hwz, hn]; simp only [heap_push, Array.getElem?_push, Array.size_push]; simp
  have k3 : wz.heap[n + 1 + 1]? = some (.cells #[.int .i64 (1 + f), .int .i64 1, .slice (some ⟨n + 1, 0, none⟩) 1 1, .slice (some ⟨n + 1 + 1 + 1, 0, none⟩) 1 1, .slice none 0 0] 26 (0, 0)) := by
    rw [hwz, hn]; simp only [heap_push, Array.getElem?_push, Array.size_push]; simp
  have k4 : wz.heap[n + 1 + 1 + 1]? = some (.cells #[.int .i64 0, .int .i64 (1 + f), .int .i64 0] 47 (0, 0)) := by
    rw [hwz, hn]; simp only [heap_push, Array.getElem?_push, Array.size_push]; simp
  have hbz : Below w1.heap.size w1 wz := by
    rw [hwz]
    repeat (first | exact Below.refl _ _ | refine Below.alloc ?_ (by simp <;> omega) _)
  have his := alone_at (1 + f) (32 + r) (1 + x) (1 + y) (BlockIs.of k1) (BlockIs.of k2) (BlockIs.of k4)
  have C1 := Lib.hid (show CfgC wz (n + 1 + 1) (.slice (some ⟨n + 1, 0, none⟩) 1 1) (.slice (some ⟨n + 1 + 1 + 1, 0, none⟩) 1 1) (.slice none 0 0) (aloneCfg (1 + f) (32 + r) (1 + x) (1 + y)) from ⟨BlockIs.of k3 0 _ rfl, BlockIs.of k3 1 _ rfl, BlockIs.of k3 2 _ rfl, BlockIs.of k3 3 _ rfl, BlockIs.of k3 4 _ rfl, his⟩)
  have HBz := Lib.hid (bthen HB1.out hbz)
  have HW := Lib.hid (And.intro hwz hn)
  obtain ⟨ac, hac⟩ : ∃ ac, ac = aloneCfg (1 + f) (32 + r) (1 + x) (1 + y) := ⟨_, rfl⟩
  have HAC := Lib.hid hac
  rw [← hac] at C1 HA
  clear k1 k2 k3 k4 hbz his HB1 hwz hn hac
  go_wp2_with fail
  rw [← HW.out.1, ← HW.out.2]
  clear HW
  refine (response_any ac _ 0 1 _ ⟨_, _, _, by rw [HAC.out]; rfl, C1.out.is⟩).mono ?_
  rw [HA.out.1]
  rintro e w2 ⟨rfl, hb2⟩
  have C2 := Lib.hid (C1.out.ext (Ext.below hb2))
  have HB2 := Lib.hid (bthen HBz.out hb2)
  clear hb2 C1 HBz
  have z0 := C2.out.c0; have z1 := C2.out.c1; have z2 := C2.out.c2; have z3 := C2.out.c3; have z4 := C2.out.c4; unfold IntAt at z0 z1
  go_wp2_with fail
  refine (response_any ac _ 0 0 _ ⟨_, _, _, rfl, C2.out.is⟩).mono ?_
  rintro e w3 ⟨rfl, hb3⟩
  have HB3 := Lib.hid (bthen HB2.out hb3)
  have C3 := Lib.hid (C2.out.ext (Ext.below hb3))
  clear hb3 HB2 C2
  clear z0 z1 z2 z3 z4
  rw [HA.out.2.1]
  have z0 := C3.out.c0; have z1 := C3.out.c1; have z2 := C3.out.c2; have z3 := C3.out.c3; have z4 := C3.out.c4; unfold IntAt at z0 z1
  go_wp2_with fail
  refine (admit_any ac _ _ ⟨_, _, _, rfl, C3.out.is⟩).mono ?_
  rintro e w4 ⟨rfl, hb4⟩
  have HB4 := Lib.hid (bthen HB3.out hb4)
  have C4 := Lib.hid (C3.out.ext (Ext.below hb4))
  clear hb4 HB3 C3
  rw [HA.out.2.2]
  clear z0 z1 z2 z3 z4
  go_wp2_with (first | (go_at_call 13; refine (num_any _ _).mono ?_; rintro e w' ⟨rfl, hw⟩; subst w') | fail)
  go_ret
  exact ⟨ret_bool (by simp), HB4.out⟩
end Go.Proofs.Ythnecccakeminaa
