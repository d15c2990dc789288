/- What audit.Rows answers. -/
import Derived.Test.YtfhebonhcolbdaaAud2
set_option linter.unusedVariables false
set_option linter.unusedSimpArgs false
namespace Go.Proofs.Ytfhebonhcolbdaa
open Go.RowKit

def rowOk (c : Config) (t m : Int) (r : Row) : Bool := decide (r.tick = t) && ownedSpec c r (wasSpec r m) && loudSpec r
def auditFrom (c : Config) : Int → Int → List Row → Bool
  | _, _, [] => true
  | t, m, r :: rs => rowOk c t m r && auditFrom c (t + 1) r.mode rs
def tick0 (rs : List Row) : Int := match rs with | [] => 0 | r :: _ => r.tick
def auditSpec (c : Config) (rs : List Row) : Int := if rowsMay c rs = false then 2400 else if auditFrom c (tick0 rs) 0 rs = true then 0 else 2401
theorem auditFrom_step (c : Config) (t m : Int) (rs : List Row) (k : Nat) (h : k < rs.length) :
    auditFrom c t m (rs.drop k) = (rowOk c t m rs[k] && auditFrom c (t + 1) rs[k].mode (rs.drop (k + 1))) := by
  rw [List.drop_eq_getElem_cons h]
  rfl

def ruleAt (c : Config) (r : Row) (t m : Int) : Nat → Bool
  | 0 => decide (r.tick = t)
  | 1 => ownedSpec c r m
  | _ => loudSpec r
set_option maxRecDepth 100000 in
set_option maxHeartbeats 1600000 in
theorem all_any (s q g b o : Nat) (c : Config) (r : Row) (t m : Int) (w : World) (hs : BlockIs w s #[.func (Fn.func 21) #[.pointer (some ⟨q, 0, none⟩)] #[], .func (Fn.func 22) #[.pointer (some ⟨q, 0, none⟩)] #[], .func (Fn.func 23) #[.pointer (some ⟨q, 0, none⟩)] #[]])
    (hq : GlassAt w q g b o t m) (hc : CfgP w g c) (hr : RowAt w b o r) (hk : checkCfg c = 0) (hm : rowMay c r = true) :
    Calls Try.prog 20 #[.slice (some ⟨s, 0, none⟩) 3 3] w fun e w' => e = .returned (.bool (decide (r.tick = t) && ownedSpec c r m && loudSpec r)) ∧ Below w.heap.size w w' := by
  have HS := Lib.hid hs
  have HQ := Lib.hid hq
  have HC := Lib.hid hc
  have HR := Lib.hid hr
  have HK := Lib.hid (And.intro hk hm)
  clear hs hq hc hr hk hm
  go_enter Try.func20, Try.ntmps20
  go_wp2_with fail
  go_loopw [4, 7] (fun _ i wr => ∃ k : Nat, k ≤ 3 ∧ i = .int .i64 k ∧ Hid (∀ j, j < k → ruleAt c r t m j = true) ∧ Below w.heap.size w wr) (fun _ i _ => 3 - (intOf i).toNat)
  case atStart => exact ⟨0, by omega, rfl, Lib.hid (fun j h => absurd h (by omega)), Below.refl _ _⟩
  case round =>
    obtain ⟨k, hk, rfl, HI, hB⟩ := hrel
    have HB := Lib.hid hB
    clear hB
    rcases (show k = 0 ∨ k = 1 ∨ k = 2 ∨ k = 3 by omega) with rfl | rfl | rfl | rfl
    · have y := Ext.below HB.out _ _ (HS.out 0 _ rfl)
      go_wp2_with fail
      refine (glassRow_any q g b o r t m _ (HQ.out.ext (Ext.below HB.out)) (HR.out.ext (Ext.below HB.out))).mono ?_
      rintro e w1 ⟨rfl, hb1⟩
      have HB1 := Lib.hid (bthen HB.out hb1)
      cases hv : decide (r.tick = t) with
      | false =>
        clear hb1 y
        have HX : Hid ((decide (r.tick = t) && ownedSpec c r m && loudSpec r) = false) := Lib.hid (by rw [hv]; simp)
        clear hv
        go_wp2_with fail
        go_ret
        exact ⟨ret_bool HX.out.symm, HB1.out⟩
      | true =>
        have HN : Hid (∀ j, j < 0 + 1 → ruleAt c r t m j = true) := Lib.hid (fun j hj => by
          by_cases e : j = 0
          · subst e; exact hv
          · exact HI.out j (by omega))
        clear hb1 y hv
        go_wp2_with fail
        go_roundw
        case rel => exact ⟨0 + 1, by omega, rfl, HN, HB1.out⟩
        case measure => simp [intOf]
    · have y := Ext.below HB.out _ _ (HS.out 1 _ rfl)
      go_wp2_with fail
      refine (owned_any q g b o c r t m _ (HQ.out.ext (Ext.below HB.out)) (HC.out.ext (Ext.below HB.out)) (HR.out.ext (Ext.below HB.out)) HK.out.1 HK.out.2).mono ?_
      rintro e w1 ⟨rfl, hb1⟩
      have HB1 := Lib.hid (bthen HB.out hb1)
      cases hv : ownedSpec c r m with
      | false =>
        clear hb1 y
        have HX : Hid ((decide (r.tick = t) && ownedSpec c r m && loudSpec r) = false) := Lib.hid (by rw [hv]; simp)
        clear hv
        go_wp2_with fail
        go_ret
        exact ⟨ret_bool HX.out.symm, HB1.out⟩
      | true =>
        have HN : Hid (∀ j, j < 1 + 1 → ruleAt c r t m j = true) := Lib.hid (fun j hj => by
          by_cases e : j = 1
          · subst e; exact hv
          · exact HI.out j (by omega))
        clear hb1 y hv
        go_wp2_with fail
        go_roundw
        case rel => exact ⟨1 + 1, by omega, rfl, HN, HB1.out⟩
        case measure => simp [intOf]
    · have y := Ext.below HB.out _ _ (HS.out 2 _ rfl)
      go_wp2_with fail
      refine (loud_any q g b o r t m _ (HQ.out.ext (Ext.below HB.out)) (HR.out.ext (Ext.below HB.out))).mono ?_
      rintro e w1 ⟨rfl, hb1⟩
      have HB1 := Lib.hid (bthen HB.out hb1)
      cases hv : loudSpec r with
      | false =>
        clear hb1 y
        have HX : Hid ((decide (r.tick = t) && ownedSpec c r m && loudSpec r) = false) := Lib.hid (by rw [hv]; simp)
        clear hv
        go_wp2_with fail
        go_ret
        exact ⟨ret_bool HX.out.symm, HB1.out⟩
      | true =>
        have HN : Hid (∀ j, j < 2 + 1 → ruleAt c r t m j = true) := Lib.hid (fun j hj => by
          by_cases e : j = 2
          · subst e; exact hv
          · exact HI.out j (by omega))
        clear hb1 y hv
        go_wp2_with fail
        go_roundw
        case rel => exact ⟨2 + 1, by omega, rfl, HN, HB1.out⟩
        case measure => simp [intOf]
    · have HX : Hid ((decide (r.tick = t) && ownedSpec c r m && loudSpec r) = true) := Lib.hid (by
        have h0 : decide (r.tick = t) = true := HI.out 0 (by omega)
        have h1 : ownedSpec c r m = true := HI.out 1 (by omega)
        have h2 : loudSpec r = true := HI.out 2 (by omega)
        rw [h0, h1, h2]; rfl)
      go_wp2_with fail
      go_ret
      exact ⟨ret_bool HX.out.symm, HB.out⟩

set_option maxRecDepth 100000 in
set_option maxHeartbeats 1600000 in
theorem rows_any (c : Config) (v : Value) (rv : Value) (rs : List Row) (w : World) (hc : CfgV w v c) (hv : RowsV w rv rs) :
    Calls Try.prog 8 #[v, rv] w fun e w' => e = .returned (.int .i64 (auditSpec c rs)) ∧ Below w.heap.size w w' := by
  obtain ⟨pv, wv, ov, rfl, hcfg⟩ := hc
  obtain ⟨pa, pk, wa, wk, oa, ok, rfl, rfl, rfl⟩ := hcfg.shape
  have HB0 := Lib.hid (balloc w (.cells #[.int .i64 c.frame, .int .i64 c.quiet, .slice pa c.parts.length pk, .slice wa c.windows.length wk, .slice oa c.ports.length ok] 26))
  have HC0 := Lib.hid (cfg_box w c _ _ _ 26 hcfg)
  have HR := Lib.hid hv
  obtain ⟨a, cap, rfl, h2, h3, h4, h5⟩ := hv
  have HV := Lib.hid h5
  have hl : rs.length ≤ 1000000000000000 := by omega
  obtain ⟨g, hg⟩ : ∃ g, g = w.heap.size := ⟨_, rfl⟩
  rw [← hg] at HC0
  have HG := Lib.hid hg
  clear hcfg hg h5
  go_enter Try.func8, Try.ntmps8
  go_wp2_with fail
  rw [← HG.out]
  refine (auditMay_any g c _ rs _ HC0.out.p (HR.out.ext (Ext.alloc _ _))).mono ?_
  rintro e w1 ⟨rfl, hb1⟩
  have HB1 := Lib.hid (bthen HB0.out hb1)
  have HC1 := Lib.hid (HC0.out.ext (Ext.below hb1))
  clear hb1 HB0 HC0
  cases hm : rowsMay c rs with
  | false =>
    have HX : Hid (auditSpec c rs = 2400) := Lib.hid (by unfold auditSpec; rw [if_pos hm])
    clear hm
    go_wp2_with fail
    go_ret
    exact ⟨ret_int HX.out.symm, HB1.out⟩
  | true =>
    have HX : Hid (auditSpec c rs = if auditFrom c (tick0 rs) 0 rs = true then 0 else 2401) := Lib.hid (by unfold auditSpec; rw [if_neg (by rw [hm]; simp)])
    have hmm : checkCfg c = 0 ∧ ∀ r ∈ rs, rowMay c r = true := by
      unfold rowsMay at hm
      simp only [Bool.and_eq_true, List.all_eq_true, decide_eq_true_eq] at hm
      exact ⟨hm.2, hm.1⟩
    have HM := Lib.hid hmm
    clear hm hmm
    go_wp2_with fail
    go_loopw [5, 13] (fun mo i wr => ∃ (k : Nat) (m : Int), k ≤ rs.length ∧ i = .int .i64 k ∧ mo = .int .i64 m ∧ Hid (auditFrom c (tick0 rs) 0 rs = auditFrom c (tick0 rs + k) m (rs.drop k)) ∧ Below w.heap.size w wr ∧ Hid (Ext w1 wr)) (fun _ i _ => rs.length - (intOf i).toNat)
    case atStart => exact ⟨0, 0, by omega, rfl, rfl, Lib.hid (by simp), HB1.out, Lib.hid (Ext.refl _)⟩
    case round =>
      obtain ⟨k, m, hk, rfl, rfl, HD, hB, HE⟩ := hrel
      have HB := Lib.hid hB
      clear hB
      by_cases hlt : k < rs.length
      · obtain ⟨b, off, rfl, hcell⟩ := HV.out (by intro h; rw [h] at hlt; simp at hlt)
        have HRk := Lib.hid (RowAt.ext (Ext.below HB.out) (hcell k hlt))
        have hr0 := RowAt.ext (Ext.below HB.out) (hcell 0 (by omega))
        have hm0 := HM.out.2 _ (List.getElem_mem (show 0 < rs.length by omega))
        have ht0 : rs[0].tick = tick0 rs := by cases rs with | nil => simp at hlt | cons x l => rfl
        have HRM := Lib.hid (HM.out.2 _ (List.getElem_mem hlt))
        obtain ⟨y0, -⟩ := hr0
        unfold IntAt at y0
        rw [ht0, Nat.zero_mul, Nat.add_zero] at y0
        have htb : 0 ≤ tick0 rs ∧ tick0 rs ≤ 1099511627776 := by
          unfold rowMay at hm0
          rw [decide_eq_true_eq, ht0] at hm0
          omega
        obtain ⟨tb0, tb1⟩ := htb
        have hstep := auditFrom_step c (tick0 rs + k) m rs k hlt
        rw [← HD.out] at hstep
        have HS := Lib.hid hstep
        obtain ⟨T, hT⟩ : ∃ T, T = tick0 rs := ⟨_, rfl⟩
        rw [← hT] at y0 tb0 tb1 HS
        have HT := Lib.hid hT
        obtain ⟨r, hr⟩ : ∃ r, r = rs[k] := ⟨_, rfl⟩
        rw [← hr] at HRk HRM HS
        clear hcell hstep HD hm0 ht0 hT hr
        have hl0 : 0 < rs.length := by omega
        have ts : IntKind.i64.wrap (T + (k : Int)) = T + (k : Int) := IntWalk.i64_in _ (by omega)
        go_wp2_with fail
        refine region_tail 14 (by kernel_rfl) (by kernel_rfl) ?_
        intro wy hy hby
        have hE : Ext wr wy := fun a v h => by rw [cell_of_heap hy]; exact h
        replace y0 := hE _ _ y0
        have HRy := Lib.hid (HRk.out.ext hE)
        have HBY := Lib.hid (bthen HB.out hby)
        have HEY := Lib.hid (HE.out.trans hE)
        clear hE hy hby
        simp only [List.take_succ_cons, List.take_zero, List.drop_succ_cons, List.drop_zero]
        repeat still_step
        still_call (was_any _ _ r m _ HRy.out)
        refine wpStill_nil ?_
        clear ts
        go_wp2_with fail
        obtain ⟨q, hq⟩ : ∃ q, q = wy.heap.size := ⟨_, rfl⟩
        have hg1 := heap_alloc_new wy (.cells #[.pointer (some ⟨g, 0, none⟩), .pointer (some ⟨b, off + k * 5, none⟩), .int .i64 (T + (k : Int)), .int .i64 (wasSpec r m)] 58)
        obtain ⟨wg, hwg⟩ : ∃ wg, wg = wy.alloc (.cells #[.pointer (some ⟨g, 0, none⟩), .pointer (some ⟨b, off + k * 5, none⟩), .int .i64 (T + (k : Int)), .int .i64 (wasSpec r m)] 58) := ⟨_, rfl⟩
        have hbg : Below wy.heap.size wy wg := by rw [hwg]; exact balloc _ _
        rw [← hwg] at hg1
        have hgs : wy.heap.size + 1 = wg.heap.size := by rw [hwg]; simp
        rw [← hwg, hgs, ← hq]
        rw [← hq] at hg1
        have hs1 := heap_alloc_new wg (.cells #[.func (Fn.func 21) #[.pointer (some ⟨q, 0, none⟩)] #[], .func (Fn.func 22) #[.pointer (some ⟨q, 0, none⟩)] #[], .func (Fn.func 23) #[.pointer (some ⟨q, 0, none⟩)] #[]] 40)
        have hba := balloc wg (.cells #[.func (Fn.func 21) #[.pointer (some ⟨q, 0, none⟩)] #[], .func (Fn.func 22) #[.pointer (some ⟨q, 0, none⟩)] #[], .func (Fn.func 23) #[.pointer (some ⟨q, 0, none⟩)] #[]] 40)
        have hbi := BlockIs.of hg1
        have HGL : Hid (GlassAt wg q g b (off + k * 5) (T + (k : Int)) (wasSpec r m)) := Lib.hid ⟨hbi 0 _ rfl, hbi 1 _ rfl, hbi 2 _ rfl, hbi 3 _ rfl⟩
        have HBA := Lib.hid (bthen hbg hba)
        have HBG := Lib.hid hba
        have HS1 := Lib.hid (BlockIs.of hs1)
        clear hq hwg hbg hgs hs1 hba hbi hg1
        refine (all_any _ q g b (off + k * 5) c r (T + (k : Int)) (wasSpec r m) _ HS1.out ?_ ?_ ?_ ?_ ?_).mono ?_
        · exact HGL.out.ext (Ext.below HBG.out)
        · exact (HC1.out.ext (HEY.out.trans (Ext.below HBA.out))).p
        · exact HRy.out.ext (Ext.below HBA.out)
        · exact HM.out.1
        · exact HRM.out
        rintro e w2 ⟨rfl, hb2⟩
        have HB2 := Lib.hid (bthen HBY.out (bthen HBA.out hb2))
        have HE2 := Lib.hid (HEY.out.trans ((Ext.below HBA.out).trans (Ext.below hb2)))
        have HR2 := Lib.hid ((HRy.out.ext (Ext.below HBA.out)).ext (Ext.below hb2))
        have HS2 : Hid (auditFrom c T 0 rs = ((decide (r.tick = T + (k : Int)) && ownedSpec c r (wasSpec r m) && loudSpec r) && auditFrom c (T + (k : Int) + 1) r.mode (rs.drop (k + 1)))) := HS
        clear hb2 HBY HBA HBG HEY HRy HS1 HGL y0 HS
        cases hv : (decide (r.tick = T + (k : Int)) && ownedSpec c r (wasSpec r m) && loudSpec r) with
        | false =>
          have HZ : Hid (auditSpec c rs = 2401) := Lib.hid (by rw [HX.out, ← HT.out, HS2.out, hv, if_neg (by simp)])
          clear hv HS2
          go_wp2_with fail
          go_ret
          exact ⟨ret_int HZ.out.symm, HB2.out⟩
        | true =>
          have HN : Hid (auditFrom c (tick0 rs) 0 rs = auditFrom c (tick0 rs + ((k + 1 : Nat) : Int)) r.mode (rs.drop (k + 1))) := Lib.hid (by
            rw [← HT.out, HS2.out, hv, Bool.true_and, Int.natCast_add, ← Int.add_assoc]; rfl)
          obtain ⟨-, -, -, y3, -⟩ := HR2.out
          unfold IntAt at y3
          clear hv HS2
          go_wp2_with fail
          go_roundw
          case rel => exact ⟨k + 1, _, by omega, by go_num, rfl, HN, HB2.out, HE2⟩
          case measure => simp [intOf]; omega
      · have hfin : auditFrom c (tick0 rs) 0 rs = true := by
          rw [HD.out, List.drop_of_length_le (by omega)]; rfl
        have HF := Lib.hid hfin
        clear hfin HD
        go_wp2_with fail
        go_ret
        exact ⟨ret_int (by rw [HX.out, if_pos HF.out]), HB.out⟩
end Go.Proofs.Ytfhebonhcolbdaa
