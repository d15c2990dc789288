/- ready.Missed and the reference's answer. -/
import Derived.Maps.AppendAt
import Derived.Test.YtpjmceiegogobaaJobM
set_option linter.unusedVariables false
set_option linter.unusedSimpArgs false
namespace Go.Proofs.Ytpjmceiegogobaa
open Go.RowKit

section
variable {P : Program} {w : World}
/-- 'append(s, x)' of one element: also where the row now stands. -/
theorem append_elem_at {ops : Array Oper} {rest : List Oper} {o : Oper} {a : Act} {Q : Exit → Act → World → Prop} (hgd : o.guard = none) (s x : Operand) (t : TypeId)
    (ho : o.op = .call { callee := .builtin .append, args := #[s, x], argTypes := #[t, t] })
    (base : Nat) (e : TypeId) (z : Value) (size bytes : Nat) (ht : P.underlying t = some (.slice e)) (hinfo : (P.info? e).map (fun i => (i.zero, i.size, i.bytes)) = some (some z, size, bytes)) (hzs : z.cells.size = size) (hsz : 0 < size)
    (v : Value) (n : Nat) (xs : List Value) (hs : a.eval s = v) (hown : w.ownsRow base e size v n xs)
    (cs : List Value) (B : Nat) (hB : w.heap.size = B) (hx : a.eval x = .slice (some ⟨B, 0, none⟩) 1 1) (hl : cs.length = size) (h1 : cs.all (·.oneCell') = true)
    (h63 : n + 1 ≤ 9223372036854775807) (hbytes : (n + 1) * bytes ≤ 140737488355328) (hbase : base ≤ w.heap.size)
    (h : ∀ v' w', w'.ownsRow base e size v' (n + 1) (xs ++ cs) → Below base w w' → (w.alloc (.cells cs.toArray e)).grownBy w' v.ownBlock → (v'.ownBlock = v.ownBlock ∨ v'.ownBlock = some (w.alloc (.cells cs.toArray e)).heap.size) → wpList P ops Q rest (a.put o.dst v') w') : wpList P ops Q (o :: rest) a (w.alloc (.cells cs.toArray e)) := by
  subst hB
  obtain ⟨i, hi, hz, hsize, hby⟩ := info_parts hinfo
  have hnew := heap_alloc_new w (.cells cs.toArray e)
  refine wpList_append_own_at (w := w.alloc (.cells cs.toArray e)) hgd s x t ho base e i z size bytes ht hi hz hsize hby hzs hsz v n xs hs (hown.alloc _) ⟨w.heap.size, 0, none⟩ 1 1 cs hx (by omega) ?_ ?_ (by unfold maxLen; omega) hbytes (by simp; omega) ?_
  · intro j u hj
    rw [addr_add]
    unfold World.cell?
    simp only [hnew]
    simpa using hj
  · intro u hu
    exact List.all_eq_true.1 h1 u hu
  · intro v' w' ho' hg' _ hat
    refine h v' w' ho' ?_ hg' hat
    exact ((Below.refl base w).alloc hbase _).grown hg' (by simp; omega) (fun k hk => (hown.lt k hk).1)
end
/-- Two rows that share no block. -/
def Apart (a b : Value) : Prop := ∀ g, a.ownBlock = some g → b.ownBlock = some g → False
theorem Apart.symm {a b : Value} (h : Apart a b) : Apart b a := fun g h1 h2 => h g h2 h1
theorem own_two {w : World} {b : Nat} {e : TypeId} {size n : Nat} {v : Value} {xs : List Value} (h : w.ownsRow b e size v n xs) {m : Value} (ha : Apart v m) {w' : World} (hg : w.grownBy w' m.ownBlock) : w'.ownsRow b e size v n xs := by
  refine h.kept hg ?_
  cases hv : v.ownBlock with
  | none => exact .inl rfl
  | some g => exact .inr (fun hq => ha g hv hq.symm)
theorem apart_next {w : World} {b : Nat} {e : TypeId} {size n : Nat} {v m m' : Value} {xs : List Value} (h : w.ownsRow b e size v n xs) (ha : Apart v m) (hat : m'.ownBlock = m.ownBlock ∨ ∃ q, w.heap.size ≤ q ∧ m'.ownBlock = some q) : Apart v m' := by
  intro g h1 h2
  rcases hat with hat | ⟨q, hq, hat⟩
  · exact ha g h1 (hat ▸ h2)
  · have h3 : g < w.heap.size := (h.lt g h1).2
    rw [hat] at h2
    injection h2 with h2
    omega
theorem filt_yes (p : Job → Bool) (xs : List Job) (k : Nat) (h : k < xs.length) (hp : p xs[k] = true) : (xs.take (k + 1)).filter p = (xs.take k).filter p ++ [xs[k]] := by
  rw [filter_snoc p xs k h, if_pos hp]
theorem filt_no (p : Job → Bool) (xs : List Job) (k : Nat) (h : k < xs.length) (hp : p xs[k] = false) : (xs.take (k + 1)).filter p = (xs.take k).filter p := by
  rw [filter_snoc p xs k h, if_neg (by rw [hp]; decide), List.append_nil]
theorem filt_le (p : Job → Bool) (xs : List Job) (k : Nat) : ((xs.take k).filter p).length ≤ k := by
  have h1 := List.length_filter_le p (xs.take k)
  have h2 := List.length_take_le k xs
  omega
def leftP (now : Int) (x : Job) : Bool := !decide (x.deadline ≤ now)
def lateP (now : Int) (x : Job) : Bool := decide (x.deadline ≤ now)
def leftJ (js : List Job) (now : Int) : List Job := if jobsMay js = true then js.filter (leftP now) else []
def lateJ (js : List Job) (now : Int) : List Job := if jobsMay js = true then js.filter (lateP now) else []
set_option maxRecDepth 100000 in
set_option maxHeartbeats 4000000 in
theorem missed_any (v : Value) (js : List Job) (now : Int) (w : World) (hv : JobsV w v js) :
    Calls Try.prog 13 #[v, .int .i64 now] w fun e w' => ∃ a b, e = .returned (.tuple #[a, b]) ∧ JobRow w' w.heap.size a (leftJ js now) ∧ JobRow w' w.heap.size b (lateJ js now) ∧ Apart a b ∧ Below w.heap.size w w' := by
  obtain ⟨a, cap, rfl, h2, h3, h4, h5⟩ := id hv
  have H := Lib.hid h5
  have HV := Lib.hid hv
  have hl : js.length ≤ 2513169434844 := by omega
  clear h5 hv
  go_enter Try.func13, Try.ntmps13
  go_wp2_with fail
  refine (readyMay_any _ js _ HV.out).mono ?_
  by_cases hm : jobsMay js = true
  · rw [hm]
    rintro e w1 ⟨rfl, hb1⟩
    have HL := Lib.hid (show leftJ js now = js.filter (leftP now) by unfold leftJ; rw [if_pos hm])
    have HM := Lib.hid (show lateJ js now = js.filter (lateP now) by unfold lateJ; rw [if_pos hm])
    have HB1 := Lib.hid hb1
    clear hm hb1
    go_wp2_with fail
    go_loopw [6, 7, 15] (fun l m i wr => ∃ k : Nat, k ≤ js.length ∧ i = .int .i64 k ∧ Hid (JobRow wr w.heap.size l ((js.take k).filter (leftP now))) ∧ Hid (JobRow wr w.heap.size m ((js.take k).filter (lateP now))) ∧ Hid (Apart l m) ∧ Below w.heap.size w wr) (fun _ _ i _ => js.length - (intOf i).toNat)
    case atStart => exact ⟨0, by omega, rfl, Lib.hid (World.ownsRow_nil _ _ _ _), Lib.hid (World.ownsRow_nil _ _ _ _), Lib.hid (fun g h => by simp [Value.ownBlock] at h), HB1.out⟩
    case round =>
      obtain ⟨k, hk, rfl, HO1, HO2, HA, hB⟩ := hrel
      have HB := Lib.hid hB
      clear hB
      by_cases hlt : k < js.length
      · obtain ⟨b, off, rfl, hcell⟩ := H.out (by intro h; rw [h] at hlt; simp at hlt)
        obtain ⟨y0, y1, y2, y3, y4, y5, y6⟩ := JobAt.ext (Ext.below HB.out) (hcell k hlt)
        unfold IntAt at y0 y1 y2 y3 y4 y5 y6
        clear hcell
        have hkl1 := filt_le (leftP now) js k
        have hkl2 := filt_le (lateP now) js k
        by_cases hp : js[k].deadline ≤ now
        · have HP1 := Lib.hid (show leftP now js[k] = false by unfold leftP; rw [decide_eq_true hp]; rfl)
          have HP2 := Lib.hid (show lateP now js[k] = true from decide_eq_true hp)
          have hp' : decide (js[k].deadline ≤ now) = true := decide_eq_true hp
          clear hp
          have hbx : Below wr.heap.size wr (wr.alloc (.cells (jobCells js[k]).toArray 24)) := by first | exact balloc _ _ | exact Below.refl _ _
          have HX := Lib.hid (bthen HB.out hbx)
          have HO1x := Lib.hid (show JobRow (wr.alloc (.cells (jobCells js[k]).toArray 24)) w.heap.size u6 _ from Below.kept HO1.out hbx)
          have HO2x := Lib.hid (show JobRow (wr.alloc (.cells (jobCells js[k]).toArray 24)) w.heap.size u7 _ from Below.kept HO2.out hbx)
          clear hbx
          go_wp2_with (at_builtin; refine append_elem_at rfl (.tmp 23) (.tmp 25) 22 rfl w.heap.size 24 _ 7 56 Try.underlying22 infoJob rfl (by decide) u7 _ _ rfl HO2x.out (jobCells js[k]) (wr.heap.size + 1) (by simp) rfl rfl rfl (by omega) (by omega) HX.out.size ?_)
          intro v2 w3 hown3 hbel3 hgr3 hat3
          have ho := Below.kept HO1x.out (balloc (wr.alloc (.cells (jobCells js[k]).toArray 24)) (.cells (jobCells js[k]).toArray 24))
          have hn := JobRow.snoc rfl hown3
          have HN2 := Lib.hid (own_two ho HA.out hgr3)
          have HA2 := Lib.hid (apart_next ho HA.out (hat3.imp id (fun h => ⟨_, (by simp), h⟩)))
          have HN1 := Lib.hid hn
          have HB3 := Lib.hid (HX.out.trans hbel3)
          obtain ⟨va, vc, rfl⟩ := own_shape hown3
          clear ho hn hown3 hbel3 hgr3 hat3 HX HO1x HO2x y0 y1 y2 y3 y4 y5 y6
          go_wp2_with fail
          go_roundw
          case rel => exact ⟨k + 1, by omega, by go_num, Lib.hid (by rw [filt_no _ js k hlt HP1.out]; exact HN2.out), Lib.hid (by rw [filt_yes _ js k hlt HP2.out]; exact HN1.out), HA2, HB3.out⟩
          case measure => simp [intOf]; omega
        · have HP1 := Lib.hid (show leftP now js[k] = true by unfold leftP; rw [decide_eq_false hp]; rfl)
          have HP2 := Lib.hid (show lateP now js[k] = false from decide_eq_false hp)
          have hp' : decide (js[k].deadline ≤ now) = false := decide_eq_false hp
          clear hp
          have hbx : Below wr.heap.size wr (wr.alloc (.cells (jobCells js[k]).toArray 24)) := by first | exact balloc _ _ | exact Below.refl _ _
          have HX := Lib.hid (bthen HB.out hbx)
          have HO1x := Lib.hid (show JobRow (wr.alloc (.cells (jobCells js[k]).toArray 24)) w.heap.size u6 _ from Below.kept HO1.out hbx)
          have HO2x := Lib.hid (show JobRow (wr.alloc (.cells (jobCells js[k]).toArray 24)) w.heap.size u7 _ from Below.kept HO2.out hbx)
          clear hbx
          go_wp2_with (at_builtin; refine append_elem_at rfl (.tmp 27) (.tmp 29) 22 rfl w.heap.size 24 _ 7 56 Try.underlying22 infoJob rfl (by decide) u6 _ _ rfl HO1x.out (jobCells js[k]) (wr.heap.size + 1) (by simp) rfl rfl rfl (by omega) (by omega) HX.out.size ?_)
          intro v2 w3 hown3 hbel3 hgr3 hat3
          have ho := Below.kept HO2x.out (balloc (wr.alloc (.cells (jobCells js[k]).toArray 24)) (.cells (jobCells js[k]).toArray 24))
          have hn := JobRow.snoc rfl hown3
          have HN2 := Lib.hid (own_two ho HA.out.symm hgr3)
          have HA2 := Lib.hid (apart_next ho HA.out.symm (hat3.imp id (fun h => ⟨_, (by simp), h⟩)))
          have HN1 := Lib.hid hn
          have HB3 := Lib.hid (HX.out.trans hbel3)
          obtain ⟨va, vc, rfl⟩ := own_shape hown3
          clear ho hn hown3 hbel3 hgr3 hat3 HX HO1x HO2x y0 y1 y2 y3 y4 y5 y6
          go_wp2_with fail
          go_roundw
          case rel => exact ⟨k + 1, by omega, by go_num, Lib.hid (by rw [filt_yes _ js k hlt HP1.out]; exact HN1.out), Lib.hid (by rw [filt_no _ js k hlt HP2.out]; exact HN2.out), Lib.hid HA2.out.symm, HB3.out⟩
          case measure => simp [intOf]; omega
      · obtain rfl : k = js.length := by omega
        have e1 : (js.take js.length).filter (leftP now) = leftJ js now := by rw [List.take_length, HL.out]
        have e2 : (js.take js.length).filter (lateP now) = lateJ js now := by rw [List.take_length, HM.out]
        rw [e1] at HO1
        rw [e2] at HO2
        clear e1 e2
        obtain ⟨va, vc, rfl⟩ := own_shape HO1.out
        obtain ⟨vd, ve, rfl⟩ := own_shape HO2.out
        go_wp2_with fail
        go_ret2
        exact ⟨_, _, rfl, HO1.out, HO2.out, HA.out, HB.out⟩
  · have hm : jobsMay js = false := by simpa using hm
    rw [hm]
    rintro e w1 ⟨rfl, hb1⟩
    have HL := Lib.hid (show leftJ js now = [] by unfold leftJ; rw [hm]; rfl)
    have HM := Lib.hid (show lateJ js now = [] by unfold lateJ; rw [hm]; rfl)
    have HB1 := Lib.hid hb1
    clear hm hb1
    go_wp2_with fail
    go_ret2
    refine ⟨_, _, rfl, ?_, ?_, (fun g h => by simp [Value.ownBlock] at h), HB1.out⟩
    · rw [HL.out]; exact World.ownsRow_nil _ _ _ _
    · rw [HM.out]; exact World.ownsRow_nil _ _ _ _
set_option maxRecDepth 100000 in
set_option maxHeartbeats 4000000 in
theorem refMissed_any (v : Value) (js : List Job) (now : Int) (w : World) (hv : JobsV w v js) :
    Calls Try.prog 14 #[v, .int .i64 now] w fun e w' => ∃ a b, e = .returned (.tuple #[a, b]) ∧ JobRow w' w.heap.size a (leftJ js now) ∧ JobRow w' w.heap.size b (lateJ js now) ∧ Apart a b ∧ Below w.heap.size w w' := by
  obtain ⟨a, cap, rfl, h2, h3, h4, h5⟩ := id hv
  have H := Lib.hid h5
  have HV := Lib.hid hv
  have hl : js.length ≤ 2513169434844 := by omega
  clear h5 hv
  go_enter Try.func14, Try.ntmps14
  go_wp2_with fail
  refine (refMay_any _ js _ HV.out).mono ?_
  by_cases hm : jobsMay js = true
  · rw [hm]
    rintro e w1 ⟨rfl, hb1⟩
    have HL := Lib.hid (show leftJ js now = js.filter (leftP now) by unfold leftJ; rw [if_pos hm])
    have HM := Lib.hid (show lateJ js now = js.filter (lateP now) by unfold lateJ; rw [if_pos hm])
    have HB1 := Lib.hid hb1
    clear hm hb1
    go_wp2_with fail
    go_loopw [6, 7, 8] (fun l m i wr => ∃ k : Nat, k ≤ js.length ∧ i = .int .i64 k ∧ Hid (JobRow wr w.heap.size l ((js.take k).filter (leftP now))) ∧ Hid (JobRow wr w.heap.size m ((js.take k).filter (lateP now))) ∧ Hid (Apart l m) ∧ Below w.heap.size w wr) (fun _ _ i _ => js.length - (intOf i).toNat)
    case atStart => exact ⟨0, by omega, rfl, Lib.hid (World.ownsRow_nil _ _ _ _), Lib.hid (World.ownsRow_nil _ _ _ _), Lib.hid (fun g h => by simp [Value.ownBlock] at h), HB1.out⟩
    case round =>
      obtain ⟨k, hk, rfl, HO1, HO2, HA, hB⟩ := hrel
      have HB := Lib.hid hB
      clear hB
      by_cases hlt : k < js.length
      · obtain ⟨b, off, rfl, hcell⟩ := H.out (by intro h; rw [h] at hlt; simp at hlt)
        obtain ⟨y0, y1, y2, y3, y4, y5, y6⟩ := JobAt.ext (Ext.below HB.out) (hcell k hlt)
        unfold IntAt at y0 y1 y2 y3 y4 y5 y6
        clear hcell
        have hkl1 := filt_le (leftP now) js k
        have hkl2 := filt_le (lateP now) js k
        by_cases hp : js[k].deadline ≤ now
        · have HP1 := Lib.hid (show leftP now js[k] = false by unfold leftP; rw [decide_eq_true hp]; rfl)
          have HP2 := Lib.hid (show lateP now js[k] = true from decide_eq_true hp)
          have hp' : decide (js[k].deadline ≤ now) = true := decide_eq_true hp
          clear hp
          have hbx : Below wr.heap.size wr wr := by first | exact balloc _ _ | exact Below.refl _ _
          have HX := Lib.hid (bthen HB.out hbx)
          have HO1x := Lib.hid (show JobRow wr w.heap.size u6 _ from Below.kept HO1.out hbx)
          have HO2x := Lib.hid (show JobRow wr w.heap.size u7 _ from Below.kept HO2.out hbx)
          clear hbx
          go_wp2_with (at_builtin; refine append_elem_at rfl (.tmp 25) (.tmp 30) 22 rfl w.heap.size 24 _ 7 56 Try.underlying22 infoJob rfl (by decide) u7 _ _ rfl HO2x.out (jobCells js[k]) wr.heap.size rfl rfl rfl rfl (by omega) (by omega) HX.out.size ?_)
          intro v2 w3 hown3 hbel3 hgr3 hat3
          have ho := Below.kept HO1x.out (balloc wr (.cells (jobCells js[k]).toArray 24))
          have hn := JobRow.snoc rfl hown3
          have HN2 := Lib.hid (own_two ho HA.out hgr3)
          have HA2 := Lib.hid (apart_next ho HA.out (hat3.imp id (fun h => ⟨_, (by simp), h⟩)))
          have HN1 := Lib.hid hn
          have HB3 := Lib.hid (HX.out.trans hbel3)
          obtain ⟨va, vc, rfl⟩ := own_shape hown3
          clear ho hn hown3 hbel3 hgr3 hat3 HX HO1x HO2x y0 y1 y2 y3 y4 y5 y6
          go_wp2_with fail
          go_roundw
          case rel => exact ⟨k + 1, by omega, by go_num, Lib.hid (by rw [filt_no _ js k hlt HP1.out]; exact HN2.out), Lib.hid (by rw [filt_yes _ js k hlt HP2.out]; exact HN1.out), HA2, HB3.out⟩
          case measure => simp [intOf]; omega
        · have HP1 := Lib.hid (show leftP now js[k] = true by unfold leftP; rw [decide_eq_false hp]; rfl)
          have HP2 := Lib.hid (show lateP now js[k] = false from decide_eq_false hp)
          have hp' : decide (js[k].deadline ≤ now) = false := decide_eq_false hp
          clear hp
          have hbx : Below wr.heap.size wr wr := by first | exact balloc _ _ | exact Below.refl _ _
          have HX := Lib.hid (bthen HB.out hbx)
          have HO1x := Lib.hid (show JobRow wr w.heap.size u6 _ from Below.kept HO1.out hbx)
          have HO2x := Lib.hid (show JobRow wr w.heap.size u7 _ from Below.kept HO2.out hbx)
          clear hbx
          go_wp2_with (at_builtin; refine append_elem_at rfl (.tmp 32) (.tmp 37) 22 rfl w.heap.size 24 _ 7 56 Try.underlying22 infoJob rfl (by decide) u6 _ _ rfl HO1x.out (jobCells js[k]) wr.heap.size rfl rfl rfl rfl (by omega) (by omega) HX.out.size ?_)
          intro v2 w3 hown3 hbel3 hgr3 hat3
          have ho := Below.kept HO2x.out (balloc wr (.cells (jobCells js[k]).toArray 24))
          have hn := JobRow.snoc rfl hown3
          have HN2 := Lib.hid (own_two ho HA.out.symm hgr3)
          have HA2 := Lib.hid (apart_next ho HA.out.symm (hat3.imp id (fun h => ⟨_, (by simp), h⟩)))
          have HN1 := Lib.hid hn
          have HB3 := Lib.hid (HX.out.trans hbel3)
          obtain ⟨va, vc, rfl⟩ := own_shape hown3
          clear ho hn hown3 hbel3 hgr3 hat3 HX HO1x HO2x y0 y1 y2 y3 y4 y5 y6
          go_wp2_with fail
          go_roundw
          case rel => exact ⟨k + 1, by omega, by go_num, Lib.hid (by rw [filt_yes _ js k hlt HP1.out]; exact HN1.out), Lib.hid (by rw [filt_no _ js k hlt HP2.out]; exact HN2.out), Lib.hid HA2.out.symm, HB3.out⟩
          case measure => simp [intOf]; omega
      · obtain rfl : k = js.length := by omega
        have e1 : (js.take js.length).filter (leftP now) = leftJ js now := by rw [List.take_length, HL.out]
        have e2 : (js.take js.length).filter (lateP now) = lateJ js now := by rw [List.take_length, HM.out]
        rw [e1] at HO1
        rw [e2] at HO2
        clear e1 e2
        obtain ⟨va, vc, rfl⟩ := own_shape HO1.out
        obtain ⟨vd, ve, rfl⟩ := own_shape HO2.out
        go_wp2_with fail
        go_ret2
        exact ⟨_, _, rfl, HO1.out, HO2.out, HA.out, HB.out⟩
  · have hm : jobsMay js = false := by simpa using hm
    rw [hm]
    rintro e w1 ⟨rfl, hb1⟩
    have HL := Lib.hid (show leftJ js now = [] by unfold leftJ; rw [hm]; rfl)
    have HM := Lib.hid (show lateJ js now = [] by unfold lateJ; rw [hm]; rfl)
    have HB1 := Lib.hid hb1
    clear hm hb1
    go_wp2_with fail
    go_ret2
    refine ⟨_, _, rfl, ?_, ?_, (fun g h => by simp [Value.ownBlock] at h), HB1.out⟩
    · rw [HL.out]; exact World.ownsRow_nil _ _ _ _
    · rw [HM.out]; exact World.ownsRow_nil _ _ _ _
end Go.Proofs.Ytpjmceiegogobaa
