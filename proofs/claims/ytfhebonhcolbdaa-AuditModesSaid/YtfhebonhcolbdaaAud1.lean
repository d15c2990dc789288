/- What the audit's rules answer of a row. -/
import Derived.Test.YtfhebonhcolbdaaRowD
import Derived.Test.YtfhebonhcolbdaaTail
import Derived.Test.YtfhebonhcolbdaaFrm1
set_option linter.unusedVariables false
set_option linter.unusedSimpArgs false
namespace Go.Proofs.Ytfhebonhcolbdaa
open Go.RowKit

def rowMay (c : Config) (r : Row) : Bool := decide (0 ≤ r.tick ∧ r.tick ≤ 1099511627776 ∧ -1 ≤ r.owner ∧ r.owner < c.parts.length ∧ (r.mode = 0 ∨ r.mode = 1))
def rowsMay (c : Config) (rs : List Row) : Bool := rs.all (rowMay c) && decide (checkCfg c = 0)
def wasSpec (r : Row) (m : Int) : Int := match r.events with | [] => m | e :: _ => if e.kind = 0 ∧ e.value = 0 then 0 else m
def lvl (c : Config) (p : Int) : Int := (c.parts.getD p.toNat ⟨0, [], []⟩).level
def ownedSpec (c : Config) (r : Row) (m : Int) : Bool :=
  if r.owner = -1 then !r.dealt
  else if ownerAt (r.tick % c.frame) c.windows = -1 ∨ (lvl c (ownerAt (r.tick % c.frame) c.windows) = 0 ∧ m = 1) then false
  else if r.owner = ownerAt (r.tick % c.frame) c.windows then !r.dealt
  else r.dealt && decide (lvl c r.owner = 0)
def loudSpec (r : Row) : Bool := r.events.all fun e => !(decide (e.kind = 4) && decide (r.mode ≠ 1))

set_option maxRecDepth 100000 in
set_option maxHeartbeats 800000 in
theorem auditMay_any (g : Nat) (c : Config) (v : Value) (rs : List Row) (w : World) (hc : CfgP w g c) (hv : RowsV w v rs) :
    Calls Try.prog 18 #[.pointer (some ⟨g, 0, none⟩), v] w fun e w' => e = .returned (.bool (rowsMay c rs)) ∧ Below w.heap.size w w' := by
  obtain ⟨pv, wv, ov, hcc⟩ := hc
  obtain ⟨pa, pk, wa, wk, oa, ok, rfl, rfl, rfl⟩ := hcc.is.shape
  have HC := Lib.hid hcc
  obtain ⟨a, cap, rfl, h2, h3, h4, h5⟩ := hv
  have HV := Lib.hid h5
  have hl : rs.length ≤ 1000000000000000 := by omega
  have lp : c.parts.length ≤ 1000000000000000 := by
    obtain ⟨_, _, e, p2, -⟩ := hcc.is.parts
    omega
  have hg : g < w.heap.size := cell_lt hcc.c2
  clear h5 hcc
  go_enter Try.func18, Try.ntmps18
  go_wp2_with fail
  go_loopw [6, 9] (fun _ i wr => ∃ k : Nat, k ≤ rs.length ∧ i = .int .i64 k ∧ Hid (rs.all (rowMay c) = (rs.drop k).all (rowMay c)) ∧ Below w.heap.size w wr) (fun _ i _ => rs.length - (intOf i).toNat)
  case atStart => exact ⟨0, by omega, rfl, Lib.hid (by simp), Below.refl _ _⟩
  case round =>
    obtain ⟨k, hk, rfl, HD, hB⟩ := hrel
    have HB := Lib.hid hB
    have HCr := Lib.hid (HC.out.ext (Ext.below hB))
    clear hB
    have z0 := HCr.out.c0; have z1 := HCr.out.c1; have z2 := HCr.out.c2; have z3 := HCr.out.c3; have z4 := HCr.out.c4; unfold IntAt at z0 z1
    by_cases hlt : k < rs.length
    · obtain ⟨b, off, rfl, hcell⟩ := HV.out (by intro h; rw [h] at hlt; simp at hlt)
      obtain ⟨y0, y1, y2, y3, ev, y4, hev⟩ := RowAt.ext (Ext.below HB.out) (hcell k hlt)
      obtain ⟨ea, ecap, rfl, -⟩ := hev
      unfold IntAt at y0 y1 y3
      unfold BoolAt at y2
      have hstep := all_step (rowMay c) rs k hlt
      rw [← HD.out] at hstep
      have HS := Lib.hid hstep
      have hgr : g < wr.heap.size := cell_lt z0
      clear hcell hstep HD
      go_wp2_with fail
      refine wp_region_quiet_lit (by kernel_rfl) (by kernel_rfl) ?_
      repeat (any_goals (first | go_big_quiet_step ((go_at_call 27; exact Calls.quiet_of_same (clock_any _ _))) | quiet_step ((go_at_call 27; exact Calls.quiet_of_same (clock_any _ _))) | (refine wpQuiet_step (fun K hK => ?_); go_simp; split <;> (refine hK _ ?_; clear hK K))))
      all_goals (refine wpQuiet_nil ?_; intro _ hw'; obtain ⟨nq, hw''⟩ := hw'; subst hw'')
      all_goals go_wp2_with fail
      all_goals first
        | (go_ret
           exact ⟨ret_bool (by unfold rowsMay; rw [HS.out]; (try simp only [beq_iff_eq, beq_eq_false_iff_ne, bne_iff_ne, bne_eq_false_iff_eq, ne_eq, decide_eq_true_eq, decide_eq_false_iff_not, Int.not_lt, Int.not_le, Bool.not_eq_true, Bool.not_eq_false] at *); simp [rowMay] <;> omega), bthen HB.out (below_drewN (balloc _ _) _)⟩)
        | (go_roundw
           case rel => exact ⟨k + 1, by omega, by go_num, Lib.hid (by rw [HS.out]; (try simp only [beq_iff_eq, beq_eq_false_iff_ne, bne_iff_ne, bne_eq_false_iff_eq, ne_eq, decide_eq_true_eq, decide_eq_false_iff_not, Int.not_lt, Int.not_le, Bool.not_eq_true, Bool.not_eq_false] at *); simp [rowMay] <;> omega), bthen HB.out (below_drewN (balloc _ _) _)⟩
           case measure => simp [intOf]; omega)
    · have hfin : rs.all (rowMay c) = true := by
        rw [HD.out, List.drop_of_length_le (by omega)]; rfl
      have HF := Lib.hid hfin
      clear hfin HD
      go_wp2_with fail
      refine (check_any c _ _ ⟨_, _, _, rfl, HCr.out.is⟩).mono ?_
      rintro e w1 ⟨rfl, hb1⟩
      go_wp2_with fail
      go_ret
      exact ⟨ret_bool (by unfold rowsMay; rw [HF.out, Bool.true_and]; rw [Bool.eq_iff_iff]; simp), bthen HB.out hb1⟩

set_option maxRecDepth 100000 in
set_option maxHeartbeats 400000 in
theorem was_any (b o : Nat) (r : Row) (m : Int) (w : World) (hr : RowAt w b o r) :
    Calls Try.prog 19 #[.pointer (some ⟨b, o, none⟩), .int .i64 m] w fun e w' => e = .returned (.int .i64 (wasSpec r m)) ∧ w' = w := by
  obtain ⟨-, -, -, -, ev, y4, a, cap, rfl, h2, h3, h4, h5⟩ := hr
  cases he : r.events with
  | nil =>
    have hs : wasSpec r m = m := by unfold wasSpec; rw [he]
    rw [he] at y4
    rw [hs]
    clear h5 he hs h2 h3
    go_enter Try.func19, Try.ntmps19
    go_wp2_with fail
    go_ret
    exact ⟨rfl, rfl⟩
  | cons x l =>
    have hs : wasSpec r m = if x.kind = 0 ∧ x.value = 0 then 0 else m := by unfold wasSpec; rw [he]
    rw [he] at y4
    have hl : (x :: l).length = l.length + 1 := rfl
    rw [hl] at y4
    obtain ⟨eb, eo, rfl, hc⟩ := h5 (by rw [he]; simp)
    have q := hc 0 (by rw [he]; simp)
    have e0 : r.events[0]'(by rw [he]; simp) = x := by simp [he]
    rw [e0, Nat.zero_mul, Nat.add_zero] at q
    obtain ⟨q0, q1, q2, q3⟩ := q
    unfold IntAt at q0 q1 q2 q3
    have hl2 : l.length ≤ 1000000000000000 := by rw [he, hl] at h2; omega
    have HS := Lib.hid hs
    clear h5 he hs h2 h3 hc e0 hl
    go_enter Try.func19, Try.ntmps19
    go_wp2_with fail
    all_goals
      go_ret
      exact ⟨ret_int (by rw [HS.out]; (try simp only [beq_iff_eq, beq_eq_false_iff_ne, bne_iff_ne, bne_eq_false_iff_eq, ne_eq, decide_eq_true_eq, decide_eq_false_iff_not, Int.not_lt, Int.not_le, Bool.not_eq_true, Bool.not_eq_false] at *); (repeat' split) <;> omega), rfl⟩
/-- A row that is looked at: its four cells. -/
structure GlassAt (w : World) (q g b o : Nat) (t m : Int) : Prop where
  c0 : w.cell? ⟨q, 0, none⟩ = some (.pointer (some ⟨g, 0, none⟩))
  c1 : w.cell? ⟨q, 1, none⟩ = some (.pointer (some ⟨b, o, none⟩))
  c2 : w.cell? ⟨q, 2, none⟩ = some (.int .i64 t)
  c3 : w.cell? ⟨q, 3, none⟩ = some (.int .i64 m)
theorem GlassAt.ext {w w' : World} (e : Ext w w') {q g b o : Nat} {t m : Int} (h : GlassAt w q g b o t m) : GlassAt w' q g b o t m := ⟨e _ _ h.c0, e _ _ h.c1, e _ _ h.c2, e _ _ h.c3⟩

set_option maxRecDepth 100000 in
set_option maxHeartbeats 400000 in
theorem glassRow_any (q g b o : Nat) (r : Row) (t m : Int) (w : World) (hq : GlassAt w q g b o t m) (hr : RowAt w b o r) :
    Calls Try.prog 21 #[.pointer (some ⟨q, 0, none⟩)] w fun e w' => e = .returned (.bool (decide (r.tick = t))) ∧ Below w.heap.size w w' := by
  obtain ⟨c0, c1, c2, c3⟩ := hq
  obtain ⟨y0, -⟩ := hr
  unfold IntAt at y0
  go_enter Try.func21, Try.ntmps21
  go_wp2_with fail
  go_quiet (fail)
  go_wp2_with fail
  go_ret
  exact ⟨ret_bool (by rw [Bool.eq_iff_iff]; simp), below_drewN (Below.refl _ _) _⟩

set_option maxRecDepth 100000 in
set_option maxHeartbeats 800000 in
theorem loud_any (q g b o : Nat) (r : Row) (t m : Int) (w : World) (hq : GlassAt w q g b o t m) (hr : RowAt w b o r) :
    Calls Try.prog 23 #[.pointer (some ⟨q, 0, none⟩)] w fun e w' => e = .returned (.bool (loudSpec r)) ∧ Below w.heap.size w w' := by
  have HQ := Lib.hid hq
  have HR := Lib.hid hr
  obtain ⟨c0, c1, c2, c3⟩ := hq
  obtain ⟨y0, y1, y2, y3, ev, y4, a, cap, rfl, h2, h3, h4, h5⟩ := hr
  have HV := Lib.hid h5
  have hl : r.events.length ≤ 1000000000000000 := by omega
  unfold IntAt at y0 y1 y3
  have H3 := Lib.hid (And.intro y3 c1)
  clear h5 c0 c2 c3 y0 y1 y2 y3
  go_enter Try.func23, Try.ntmps23
  go_wp2_with fail
  clear c1 y4
  go_loopw [4, 13] (fun _ i wr => ∃ k : Nat, k ≤ r.events.length ∧ i = .int .i64 k ∧ Hid (loudSpec r = (r.events.drop k).all fun e => !(decide (e.kind = 4) && decide (r.mode ≠ 1))) ∧ Below w.heap.size w wr) (fun _ i _ => r.events.length - (intOf i).toNat)
  case atStart => exact ⟨0, by omega, rfl, Lib.hid (by simp [loudSpec]), Below.refl _ _⟩
  case round =>
    obtain ⟨k, hk, rfl, HD, hB⟩ := hrel
    have HB := Lib.hid hB
    have y3 := Ext.below hB _ _ H3.out.1
    have c1 := Ext.below hB _ _ H3.out.2
    clear hB
    by_cases hlt : k < r.events.length
    · obtain ⟨eb, eo, rfl, hcell⟩ := HV.out (by intro h; rw [h] at hlt; simp at hlt)
      obtain ⟨q0, q1, q2, q3⟩ := EventAt.ext (Ext.below HB.out) (hcell k hlt)
      unfold IntAt at q0 q1 q2 q3
      have hstep := all_step (fun e : Event => !(decide (e.kind = 4) && decide (r.mode ≠ 1))) r.events k hlt
      rw [← HD.out] at hstep
      have HS := Lib.hid hstep
      have hqr : q < wr.heap.size := cell_lt c1
      have hbr : b < wr.heap.size := cell_lt y3
      clear hcell hstep HD
      go_wp2_with fail
      all_goals first
        | (go_ret
           exact ⟨ret_bool (by rw [HS.out]; (try simp only [beq_iff_eq, beq_eq_false_iff_ne, bne_iff_ne, bne_eq_false_iff_eq, ne_eq, decide_eq_true_eq, decide_eq_false_iff_not, Int.not_lt, Int.not_le, Bool.not_eq_true, Bool.not_eq_false] at *); simp [*]), bthen HB.out (balloc _ _)⟩)
        | (go_roundw
           case rel => exact ⟨k + 1, by omega, by go_num, Lib.hid (by rw [HS.out]; (try simp only [beq_iff_eq, beq_eq_false_iff_ne, bne_iff_ne, bne_eq_false_iff_eq, ne_eq, decide_eq_true_eq, decide_eq_false_iff_not, Int.not_lt, Int.not_le, Bool.not_eq_true, Bool.not_eq_false] at *); simp [*]), bthen HB.out (balloc _ _)⟩
           case measure => simp [intOf]; omega)
    · have hfin : loudSpec r = true := by
        rw [HD.out, List.drop_of_length_le (by omega)]; rfl
      have HF := Lib.hid hfin
      clear hfin HD
      go_wp2_with fail
      go_ret
      exact ⟨ret_bool HF.out.symm, HB.out⟩
end Go.Proofs.Ytfhebonhcolbdaa
