/- package ring: All (printed by gen17b.py). -/
import Derived.Test.YtkjjfidbmkpljaaRng
set_option linter.unusedVariables false
set_option linter.unusedSimpArgs false
namespace Go.Proofs.Ytkjjfidbmkpljaa
open Go.RowKit

theorem infoInt : (Try.prog.info? 3).map (fun i => (i.zero, i.size, i.bytes)) = some (some (.int .i64 0), 1, 8) := by kernel_rfl
def intCell (x : Int) : List Value := [.int .i64 x]
/-- A row of whole numbers that is the call's own. -/
def IntRow (W : World) (B : Nat) (v : Value) (es : List Int) : Prop := W.ownsRow B 3 1 v es.length (es.flatMap intCell)
theorem IntRow.ints {W : World} {B : Nat} {v : Value} {es : List Int} (h : IntRow W B v es) (hB : es.length * 8 ≤ 140737488351232) : IntsV W v es := flatInt.slice h hB
theorem IntRow.snoc {W : World} {B : Nat} {v : Value} {es : List Int} {x : Int} {n : Nat} (hn : n = es.length) (h : W.ownsRow B 3 1 v (n + 1) (es.flatMap intCell ++ intCell x)) : IntRow W B v (es ++ [x]) := by
  subst hn
  unfold IntRow
  rw [List.length_append, List.flatMap_append]
  simpa using h
def AlV (r : Value) (g i j : Nat) (y : Int) (a : Nat) (v : Value) : Prop := match a with
  | 0 => v = r
  | 1 => v = .pointer (some ⟨g, 0, none⟩)
  | 2 => v = .pointer (some ⟨g, 0, none⟩)
  | 3 => v = .int .i64 (i : Int)
  | 4 => v = .int .i64 (j : Int)
  | 5 => v = .pointer (some ⟨g, 0, none⟩)
  | 6 => v = .pointer (some ⟨g, 0, none⟩)
  | 7 => v = .pointer (some ⟨g, j, none⟩)
  | 8 => v = .int .i64 y
  | _ => True
set_option maxRecDepth 100000 in
set_option maxHeartbeats 4000000 in
theorem ring_all (g k : Nat) (q : List Int) (w : World) (h : RingAt w g k q) :
    Calls Try.prog 97 #[.pointer (some ⟨g, 0, none⟩)] w fun e w' => ∃ v, e = .returned v ∧ IntRow w' w.heap.size v q ∧ Below w.heap.size w w' := by
  obtain ⟨cs, f, h⟩ := h
  have HH := Lib.hid h
  have x1 := h.many
  have hqk := h.qk
  have hk1 := h.k1
  have hk2 := h.k2
  have hfk := h.fk
  have HSZ := Lib.hid h.size
  have HFI := Lib.hid h.first
  clear h
  go_enter Try.func97, Try.ntmps97
  go_wp2_with fail
  go_loopw [3, 11] (fun r a wr => ∃ i : Nat, i ≤ q.length ∧ a = .int .i64 i ∧ Hid (IntRow wr w.heap.size r (q.take i)) ∧ Hid (Below w.heap.size w wr)) (fun _ a _ => q.length - (intOf a).toNat)
  case atStart => exact ⟨0, by omega, rfl, Lib.hid (World.ownsRow_nil _ _ _ _), Lib.hid (Below.refl _ _)⟩
  case round =>
    obtain ⟨i, hi, rfl, HR, HB⟩ := hrel
    by_cases hlt : i < q.length
    · obtain ⟨j, hj⟩ : ∃ j, j = (f + i) % k := ⟨_, rfl⟩
      obtain ⟨y, hy⟩ : ∃ y, y = q[i] := ⟨_, rfl⟩
      have hi64 : i ≤ 64 := by omega
      have hj64 : j < 64 := by rw [hj]; have := Nat.mod_lt (f + i) (show 0 < k by omega); omega
      have HYC := Lib.hid (HH.out.got (show cs[j]? = some y by rw [hj, hy]; exact HH.out.at_ i hlt))
      have HJ := Lib.hid (show Value.int .i64 (((f + i) % k : Nat) : Int) = .int .i64 (j : Int) by rw [hj])
      have HY := Lib.hid hy
      have hti : (q.take i).length = i := by rw [List.length_take]; omega
      have hut : q.take (i + 1) = q.take i ++ [y] := by rw [List.take_add_one, List.getElem?_eq_getElem hlt, hy]; rfl
      have HUT := Lib.hid hut
      have d1 : (j : Int) < 64 := by omega
      clear hj hy hut
      go_wp2_with fail
      refine region_inv0 rfl (by kernel_rfl) (AppInv w 3 1 u3 (q.take i).length (((q.take i).flatMap intCell)) (intCell y) (AlV u3 g i j y) 9 10 11) (fun vs h0 => ⟨(fun i h => by cases h), below_drew HB.out, (fun _ => Below.kept HR.out (below_drew (Below.refl _ _))), (fun _ h => by cases h), (fun h => by cases h), (fun h => by cases h), (fun _ => h0 11 3 rfl)⟩) ?_ ?_
      · simp (config := { maxSteps := 4000000 }) only [List.map, putAll, Act.put, InvE, List.setIfInBounds_toArray, List.set_cons_succ, List.set_cons_zero, Nat.reduceAdd]
        refine ⟨?_, ?_, ?_, ?_, ?_, ?_, ?_, ?_, ?_, ?_, ?_, ?_, trivial⟩
        all_goals
          intro L vs W hI hi hn hcl K hK
          rw [if_pos (by simp [Region.wanted])]
        · have hO : L 11 = false := by
            cases h : L 11
            · rfl
            · exact absurd (hcl 10 _ rfl (hcl 11 _ rfl h 10 rfl) 0 rfl) (Bool.eq_false_iff.1 hi)
          have e21 := hI.old hO
          simp only [e21] at hK ⊢
          clear e21 hO
          have HK := Lib.hid (fun v h => hK v W ⟨pv_upd hI.pv h, hI.below, hI.row, hI.new, hI.res, hI.out, hI.old⟩)
          clear hK hI hn hcl hi
          go_simp
          exact HK.out _ rfl
        · have HK := Lib.hid (fun v h => hK v W ⟨pv_upd hI.pv h, hI.below, hI.row, hI.new, hI.res, hI.out, hI.old⟩)
          clear hK hI hn hcl hi
          go_simp
          exact HK.out _ rfl
        · have HK := Lib.hid (fun v h => hK v W ⟨pv_upd hI.pv h, hI.below, hI.row, hI.new, hI.res, hI.out, hI.old⟩)
          clear hK hI hn hcl hi
          go_simp
          exact HK.out _ rfl
        · have HK := Lib.hid (fun v h => hK v W ⟨pv_upd hI.pv h, hI.below, hI.row, hI.new, hI.res, hI.out, hI.old⟩)
          clear hK hI hn hcl hi
          go_simp
          exact HK.out _ rfl
        · have r2 : vs 2 = .pointer (some ⟨g, 0, none⟩) := hI.pv 2 (hn 2 rfl)
          have r3 : vs 3 = .int .i64 (i : Int) := hI.pv 3 (hn 3 rfl)
          simp only [r2, r3] at hK ⊢
          have HK := Lib.hid hK
          have HI := Lib.hid hI
          clear hK hI hn hcl hi
          go_simp
          go_at_call 94
          refine (rat_any g k f i _ (Ext.below HI.out.below _ _ HSZ.out) (Ext.below HI.out.below _ _ HFI.out) hk1 hk2 hfk hi64).mono ?_
          rintro e w' ⟨rfl, mm, rfl⟩
          have k1 := HI.out.keep (below_drewN (Below.refl _ _) mm)
          exact HK.out _ _ ⟨pv_upd k1.pv HJ.out, k1.below, k1.row, k1.new, k1.res, k1.out, k1.old⟩
        · have r1 : vs 1 = .pointer (some ⟨g, 0, none⟩) := hI.pv 1 (hn 1 rfl)
          simp only [r1] at hK ⊢
          have HK := Lib.hid (fun v h => hK v W ⟨pv_upd hI.pv h, hI.below, hI.row, hI.new, hI.res, hI.out, hI.old⟩)
          clear hK hI hn hcl hi
          go_simp
          exact HK.out _ rfl
        · have r5 : vs 5 = .pointer (some ⟨g, 0, none⟩) := hI.pv 5 (hn 5 rfl)
          simp only [r5] at hK ⊢
          have HK := Lib.hid (fun v h => hK v W ⟨pv_upd hI.pv h, hI.below, hI.row, hI.new, hI.res, hI.out, hI.old⟩)
          clear hK hI hn hcl hi
          go_simp
          exact HK.out _ rfl
        · have r6 : vs 6 = .pointer (some ⟨g, 0, none⟩) := hI.pv 6 (hn 6 rfl)
          have r4 : vs 4 = .int .i64 (j : Int) := hI.pv 4 (hn 4 rfl)
          simp only [r6, r4] at hK ⊢
          have HK := Lib.hid (fun v h => hK v W ⟨pv_upd hI.pv h, hI.below, hI.row, hI.new, hI.res, hI.out, hI.old⟩)
          clear hK hI hn hcl hi
          go_simp
          exact HK.out _ rfl
        · have r7 : vs 7 = .pointer (some ⟨g, j, none⟩) := hI.pv 7 (hn 7 rfl)
          have y0 := Ext.below hI.below _ _ HYC.out
          simp only [r7] at hK ⊢
          have HK := Lib.hid (fun v h => hK v W ⟨pv_upd hI.pv h, hI.below, hI.row, hI.new, hI.res, hI.out, hI.old⟩)
          clear hK hI hn hcl hi
          go_simp
          exact HK.out _ rfl
        · have r8 : vs 8 = .int .i64 y := hI.pv 8 (hn 8 rfl)
          simp only [r8] at hK ⊢
          have HK := Lib.hid hK
          have HI := Lib.hid hI
          clear hK hI hn hcl hi
          go_simp
          have k1 := HI.out.keep (balloc W (.cells (intCell y).toArray 3))
          exact HK.out _ _ ⟨pv_upd k1.pv trivial, k1.below, k1.row, fun _ _ => ⟨W.heap.size, rfl, blk_new _ _⟩, k1.res, k1.out, k1.old⟩
        · have r0 : vs 0 = u3 := hI.pv 0 (hn 0 rfl)
          have hA : L 10 = false := hi
          have hO : L 11 = false := by
            cases h : L 11
            · rfl
            · exact absurd (hcl 11 _ rfl h 10 rfl) (Bool.eq_false_iff.1 hA)
          obtain ⟨g9, e19, hg⟩ := hI.new hA (hn 9 rfl)
          have hr := hI.row hA
          have hsrc : Src W (vs 9) 1 (intCell y) := .inr ⟨⟨g9, 0, none⟩, 1, e19, fun j u hu => by rw [addr_add]; have h := BlockIs.of hg j u (by simpa using hu); simpa using h⟩
          refine wp_onto _ (.tmp 14) (.tmp 23) 49 rfl w.heap.size 3 _ 1 8 Try.underlying49 infoInt rfl (by decide) u3 (q.take i).length _ (hI.pv 0 (hn 0 rfl)) hr 1 (intCell y) hsrc rfl (fun u hu => flatInt.one _ u hu) (by have := hti; simp only [maxLen]; omega) (by have := hti; omega) hI.below.size ?_
          intro v' w' ho hg2
          refine hK v' w' ⟨pv_upd hI.pv trivial, hI.below.grown hg2 hI.below.size (fun q hq => (hr.lt q hq).1), fun q => absurd q (by simp [updB]), fun q => absurd q (by simp [updB]), fun _ => ho, fun q => absurd q (Bool.eq_false_iff.1 hO), hI.old⟩
        · have HK := Lib.hid (fun v h => hK v W ⟨pv_upd hI.pv trivial, hI.below, hI.row, hI.new, hI.res, (fun _ => h), fun q => absurd q (by simp [updB])⟩)
          clear hK hI hn hcl hi
          go_simp
          exact HK.out _ rfl
      · intro vs W hI
        simp only [List.map, putAll, Act.put, List.setIfInBounds_toArray, List.set_cons_succ, List.set_cons_zero, Nat.reduceAdd]
        have hr := hI.res (by simp)
        have e21 := hI.out (by simp)
        have r0 : vs 0 = u3 := hI.pv 0 (by simp)
        have r1 : vs 1 = .pointer (some ⟨g, 0, none⟩) := hI.pv 1 (by simp)
        have r2 : vs 2 = .pointer (some ⟨g, 0, none⟩) := hI.pv 2 (by simp)
        have r3 : vs 3 = .int .i64 (i : Int) := hI.pv 3 (by simp)
        have r4 : vs 4 = .int .i64 (j : Int) := hI.pv 4 (by simp)
        have r5 : vs 5 = .pointer (some ⟨g, 0, none⟩) := hI.pv 5 (by simp)
        have r6 : vs 6 = .pointer (some ⟨g, 0, none⟩) := hI.pv 6 (by simp)
        have r7 : vs 7 = .pointer (some ⟨g, j, none⟩) := hI.pv 7 (by simp)
        have r8 : vs 8 = .int .i64 y := hI.pv 8 (by simp)
        have HBW := Lib.hid hI.below
        rw [← e21] at hr
        obtain ⟨ra, rc, e5⟩ := own_shape hr
        have HRW := Lib.hid hr
        simp only [r0, r1, r2, r3, r4, r5, r6, r7, r8, ← e21]
        clear hI hr r0 r1 r2 r3 r4 r5 r6 r7 r8
        have HRN := Lib.hid (show IntRow W w.heap.size (vs 11) (q.take (i + 1)) by rw [HUT.out]; exact IntRow.snoc rfl HRW.out)
        clear HRW
        go_wp2_with fail
        exact ⟨⟨i + 1, by omega, rfl, HRN, HBW⟩, by simp [intOf]; omega⟩
    · obtain rfl : i = q.length := by omega
      have HRN : Hid (IntRow wr w.heap.size u3 q) := by rw [List.take_length] at HR; exact HR
      obtain ⟨ra, rc, rfl⟩ := own_shape HRN.out
      go_wp2_with fail
      go_ret
      exact ⟨_, rfl, HRN.out, HB.out⟩
end Go.Proofs.Ytkjjfidbmkpljaa
