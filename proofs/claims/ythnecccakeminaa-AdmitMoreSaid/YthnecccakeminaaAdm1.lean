/- Who may ask, and what is asked for at most. -/
import Derived.Test.YthnecccakeminaaRef1
import Derived.Maps.OwnSet
import Derived.IntWalk
set_option linter.unusedVariables false
set_option linter.unusedSimpArgs false
namespace Go.Proofs.Ythnecccakeminaa
open Go.RowKit Go.Maps

theorem plainElem_bool_inv {H : Type} {P : Program} {e : TypeId} (he : P.underlying e = some .bool) {v : Value} {z : DataW H × List MemPlace} (h : plainElem P e v = some z) : ∃ a, v = .bool a ∧ z = (.lit (.bool a), []) := by
  unfold plainElem at h
  rw [he] at h
  cases v <;> simp at h
  exact ⟨_, rfl, h.symm⟩
theorem zeroBool (w : World) : (zeroValue 4).run Try.prog w = .ok (.bool false) w := by kernel_rfl
theorem prioKeyed : Keyed Try.prog 3 := int_keyed Try.underlying3
def prioKeys (ts : List Task) (k : Nat) : List Lit := (ts.take k).map fun t => .int .i64 t.prio
def seenAt (ts : List Task) (k : Nat) : DataW Unit := setOf (.lit (.bool true)) (prioKeys ts k)
theorem seenAt_succ (ts : List Task) (k : Nat) (hk : k < ts.length) : seenAt ts (k + 1) = (seenAt ts k).put (.int .i64 ts[k].prio) (.lit (.bool true)) := by
  unfold seenAt
  rw [← setOf_snoc]
  congr 1
  unfold prioKeys
  rw [List.take_add_one, List.map_append]
  simp [List.getElem?_eq_getElem hk]
theorem seen_not (ts : List Task) (k : Nat) (hk : k < ts.length) (h : (ts.take k).any (fun x => decide (x.prio = ts[k].prio)) = false) (z : DataW Unit) : (seenAt ts k).atKey (.int .i64 ts[k].prio) z = z := by
  refine atKey_of_not_has ?_ z
  unfold seenAt
  rw [has_setOf _ _ _ (by
    intro x hx
    unfold prioKeys at hx
    obtain ⟨t, -, rfl⟩ := List.mem_map.1 hx
    trivial)]
  rw [List.any_eq_false]
  intro x hx hs
  unfold prioKeys at hx
  obtain ⟨t, ht, rfl⟩ := List.mem_map.1 hx
  have he := WideAt.sameKey_eq hs
  injection he with _ he
  have := List.any_eq_false.1 h t ht
  simp [he] at this
theorem prio_key (t : Task) (hm : taskMay t = true) : keyOf Try.prog 3 (.int .i64 t.prio) = some (.int .i64 t.prio) := by
  have hp : 0 ≤ t.prio ∧ t.prio ≤ 255 := by
    unfold taskMay at hm
    have := of_decide_eq_true hm
    omega
  exact keyOf_int_mk Try.underlying3 (by simp [Lit.wf, IntKind.min, IntKind.max, IntKind.bits, IntKind.signed]; omega)
theorem seen_look {W : World} {b n k : Nat} {ts : List Task} (h : W.ownsMap Try.prog 3 (plainElem Try.prog 4) b n (seenAt ts k)) (hk : k < ts.length) (hm : taskMay ts[k] = true) (ha : (ts.take k).any (fun x => decide (x.prio = ts[k].prio)) = false) :
    (Instr.lookup 90 (.map (some b)) (.int .i64 ts[k].prio) false).run Try.prog W = .ok (.bool false) W := by
  have hkey := prio_key ts[k] hm
  obtain ⟨v, ps, hrun, hR⟩ := h.lookup prioKeyed Try.underlying90 (zeroBool W) (plainElem_bool Try.underlying4 false) hkey
  rw [seen_not ts k hk ha] at hR
  obtain ⟨a, rfl, hz⟩ := plainElem_bool_inv Try.underlying4 hR
  simp at hz
  rw [hrun, hz.1]
theorem ownsMap_below {H : Type} {w w' : World} {P : Program} {k : TypeId} {R : Value → Option (DataW H × List MemPlace)} {b n : Nat} {D : DataW H} (h : w.ownsMap P k R b n D) (hb : Below w.heap.size w w') : w'.ownsMap P k R b n D :=
  h.kept (World.grownBy.mk hb.os hb.tape hb.output hb.size (fun j hj _ => hb.block j hj) : w.grownBy w' none) (by simp)

theorem tasksOk_at (ts : List Task) (h : tasksOk ts = true) : ∀ k (hk : k < ts.length), taskMay ts[k] = true ∧ (ts.take k).any (fun x => decide (x.prio = ts[k].prio)) = false := by
  have key : ∀ k, k ≤ ts.length → tasksOkFrom ts k (ts.drop k) = true := by
    intro k
    induction k with
    | zero => intro _; simpa [tasksOk] using h
    | succ k ih =>
      intro hk
      have h1 := ih (by omega)
      rw [tasksOkFrom_step ts k (by omega)] at h1
      simp only [Bool.and_eq_true] at h1
      exact h1.2
  intro k hk
  have h1 := key k (by omega)
  rw [tasksOkFrom_step ts k hk] at h1
  simp only [Bool.and_eq_true, Bool.not_eq_true'] at h1
  exact h1.1

set_option maxRecDepth 100000 in
set_option maxHeartbeats 1000000 in
theorem may_any (v : Value) (ts : List Task) (w : World) (hv : TasksV w v ts) (hok : tasksOk ts = true) (h6 : ts.length ≤ 6) :
    Calls Try.prog 46 #[v] w fun e w' => e = .returned (.bool true) ∧ Below w.heap.size w w' := by
  obtain ⟨a, c, rfl, hv1, hv2, hv3, hv4⟩ := hv
  have HV := Lib.hid hv4
  have HK := Lib.hid (tasksOk_at ts hok)
  have hmm := @run_makeMap Try.prog
  clear hv4 hok
  go_enter Try.func46, Try.ntmps46
  go_wp2_with fail
  go_loopw [9] (fun i wr => ∃ (k : Nat), k ≤ ts.length ∧ i = .int .i64 k ∧ Hid (wr.ownsMap Try.prog 3 (plainElem Try.prog 4) w.heap.size k (seenAt ts k)) ∧ Below w.heap.size w wr) (fun i _ => ts.length - (intOf i).toNat)
  case atStart => exact ⟨0, by omega, rfl, Lib.hid (by simpa [seenAt, prioKeys, setOf] using World.ownsMap_made w _ _ _), balloc _ _⟩
  case round =>
    obtain ⟨k, hk, rfl, HO, hB⟩ := hrel
    have HB := Lib.hid hB
    clear hB hmm
    by_cases hlt : k < ts.length
    · obtain ⟨b, off, rfl, hcell⟩ := HV.out (by intro h; rw [h] at hlt; simp at hlt)
      obtain ⟨y0, y1, y2, y3, y4, y5⟩ := TaskAt.ext (Ext.below HB.out) (hcell k hlt)
      unfold IntAt at y0 y1 y2 y3 y4 y5
      clear hcell
      obtain ⟨hm, ha⟩ := HK.out k hlt
      have HM := Lib.hid (And.intro hm ha)
      clear ha
      go_wp2_with fail
      refine (taskMay_any _ _).mono ?_
      rintro e w1 ⟨rfl, hb1⟩
      have HB1 := Lib.hid (bthen HB.out (bthen (balloc _ _) hb1))
      have hO1 := ownsMap_below (HO.out.alloc (.cells (taskV ts[k]).cells 44)) hb1
      have hrun := seen_look hO1 hlt HM.out.1 HM.out.2
      have HO1 := Lib.hid hO1
      obtain ⟨c1, f1⟩ := bcell hb1
      clear hb1 HB HO hO1 y0 y1 y2 y3 y4 y5
      rw [hm]
      clear hm
      go_wp2_with (first
        | (at_mapUpdate; refine wpList_mapUpdate_own _ rfl _ _ _ 90 rfl 3 4 prioKeyed Try.underlying90 (plainElem (H := Unit) Try.prog 4) w.heap.size k _ rfl HO1.out (by unfold maxLen; omega) _ _ _ rfl rfl (prio_key ts[k] HM.out.1) _ [] (plainElem_bool Try.underlying4 true) ?_; intro w2 hown2 hgrow2)
        | fail)
      have HO2 := Lib.hid hown2
      have HB2 := Lib.hid (HB1.out.grown hgrow2 HB1.out.size (fun j hj => by cases hj; exact Nat.le_refl _))
      clear hown2 hgrow2 hrun
      go_wp2_with fail
      go_roundw
      case rel => exact ⟨k + 1, by omega, by go_num, Lib.hid (by rw [seenAt_succ ts k hlt]; exact HO2.out), HB2.out⟩
      case measure => simp [intOf]; omega
    · go_wp2_with fail
      go_ret
      exact ⟨rfl, HB.out⟩
end Go.Proofs.Ythnecccakeminaa
