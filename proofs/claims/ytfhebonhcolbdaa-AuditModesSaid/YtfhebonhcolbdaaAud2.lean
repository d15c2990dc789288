/- May the owner own the tick: what the audit's rule answers. -/
import Derived.Test.YtfhebonhcolbdaaAud1
import Derived.IntWalk
set_option linter.unusedVariables false
set_option linter.unusedSimpArgs false
namespace Go.Proofs.Ytfhebonhcolbdaa
open Go.RowKit

theorem owner_bd (c : Config) (t : Int) (hk : checkCfg c = 0) : -1 ≤ ownerAt t c.windows ∧ ownerAt t c.windows < c.parts.length := by
  have ho := check_ok hk
  have hall := winsFrom_all _ _ _ _ ho.2.2.2.2.2.2.2
  have : ∀ ws : List Window, (∀ x ∈ ws, 0 ≤ x.part ∧ x.part < c.parts.length) → -1 ≤ ownerAt t ws ∧ ownerAt t ws < c.parts.length := by
    intro ws
    induction ws with
    | nil => intro _; show (-1 : Int) ≤ -1 ∧ (-1 : Int) < _; omega
    | cons x r ih =>
      intro h
      have h1 := h x (by simp)
      have h2 := ih (fun y hy => h y (by simp [hy]))
      unfold ownerAt
      split <;> omega
  exact this c.windows (fun x hx => by have := hall x hx; omega)
theorem lvl_nat (c : Config) (n : Nat) (h : n < c.parts.length) : lvl c (n : Int) = c.parts[n].level := by
  unfold lvl
  rw [Int.toNat_natCast, List.getD_eq_getElem?_getD, List.getElem?_eq_getElem h]
  rfl
/-- A part's level's cell. -/
theorem level_cell {W : World} {pa : Option Addr} {c : Config} {pk n : Nat} (h : PartsV W (.slice pa c.parts.length pk) c.parts) (hn : n < c.parts.length) : ∃ b off, pa = some ⟨b, off, none⟩ ∧ W.cell? ⟨b, off + n * 3, none⟩ = some (.int .i64 (lvl c (n : Int))) := by
  obtain ⟨_, _, e, p1, p2, p3, p4⟩ := h
  injection e with e1 e2 e3
  subst e1
  obtain ⟨b, off, rfl, hc⟩ := p4 (by intro h; rw [h] at hn; simp at hn)
  obtain ⟨y0, -⟩ := hc n hn
  refine ⟨b, off, rfl, ?_⟩
  rw [lvl_nat c n hn]
  exact y0

set_option maxRecDepth 100000 in
set_option maxHeartbeats 3000000 in
theorem owned_any (q g b o : Nat) (c : Config) (r : Row) (t m : Int) (w : World) (hq : GlassAt w q g b o t m) (hc : CfgP w g c) (hr : RowAt w b o r) (hk : checkCfg c = 0) (hm : rowMay c r = true) :
    Calls Try.prog 22 #[.pointer (some ⟨q, 0, none⟩)] w fun e w' => e = .returned (.bool (ownedSpec c r m)) ∧ Below w.heap.size w w' := by
  have HQ := Lib.hid hq
  have HR := Lib.hid hr
  obtain ⟨pv, wv, ov, hcc⟩ := hc
  obtain ⟨pa, pk, wa, wk, oa, ok, rfl, rfl, rfl⟩ := hcc.is.shape
  have HC := Lib.hid hcc
  have ho := check_ok hk
  have hbd := owner_bd c (r.tick % c.frame) hk
  unfold rowMay at hm
  rw [decide_eq_true_eq] at hm
  obtain ⟨m1, m2, m3, m4, m5⟩ := hm
  have f1 : 1 ≤ c.frame := ho.1
  have f2 : c.frame ≤ 256 := ho.2.1
  have lp : c.parts.length ≤ 8 := ho.2.2.2.2.2.1
  obtain ⟨c0, c1, c2, c3⟩ := hq
  obtain ⟨y0, y1, y2, y3, -⟩ := hr
  unfold IntAt at y0 y1 y3
  unfold BoolAt at y2
  have z0 := hcc.c0
  unfold IntAt at z0
  have fnz : c.frame ≠ 0 := by omega
  have tn0 : 0 ≤ r.tick % c.frame := Int.emod_nonneg _ fnz
  have tn1 : r.tick % c.frame < c.frame := Int.emod_lt_of_pos _ (by omega)
  have tm1 : r.tick.tmod c.frame = r.tick % c.frame := Int.tmod_eq_emod_of_nonneg m1
  obtain ⟨T, hT⟩ : ∃ T, T = r.tick % c.frame := ⟨_, rfl⟩
  rw [← hT] at tn0 tn1 tm1 hbd
  have tm2 : r.tick % c.frame = T := hT.symm
  have tm3 : IntKind.i64.wrap T = T := IntWalk.i64_in _ (by omega)
  have HT := Lib.hid hT
  clear hcc ho hk m5 hT
  go_enter Try.func22, Try.ntmps22
  go_wp2_with fail
  refine region_tail 19 (by kernel_rfl) (by kernel_rfl) ?_
  intro wy hy hby
  have hE : Ext w wy := fun a v h => by rw [cell_of_heap hy]; exact h
  replace c0 := hE _ _ c0
  replace c1 := hE _ _ c1
  replace y0 := hE _ _ y0
  replace z0 := hE _ _ z0
  have HCy := Lib.hid (HC.out.ext hE)
  have HRy := Lib.hid (HR.out.ext hE)
  have HQy := Lib.hid (HQ.out.ext hE)
  have HBY := Lib.hid hby
  clear hE hy hby c2 c3 y1 y2 y3
  simp only [List.take_succ_cons, List.take_zero, List.drop_succ_cons, List.drop_zero]
  repeat still_step
  refine wpStill_nil ?_
  go_wp2_with fail
  refine (owner_any _ _ c.windows _ _ HCy.out.c3 HCy.out.is.windows).mono ?_
  rintro e w1 ⟨rfl, hb1⟩
  clear tm1 tm2 tm3 tn0 tn1
  obtain ⟨W, hW⟩ : ∃ W, W = ownerAt T c.windows := ⟨_, rfl⟩
  have HS : Hid (ownedSpec c r m = if r.owner = -1 then !r.dealt else if W = -1 ∨ (lvl c W = 0 ∧ m = 1) then false else if r.owner = W then !r.dealt else r.dealt && decide (lvl c r.owner = 0)) := Lib.hid (by rw [hW, HT.out]; rfl)
  rw [← hW] at hbd ⊢
  obtain ⟨b0, b1⟩ := hbd
  have HB1 := Lib.hid (bthen HBY.out hb1)
  have HC1 := Lib.hid (HCy.out.ext (Ext.below hb1))
  have HR1 := Lib.hid (HRy.out.ext (Ext.below hb1))
  have HQ1 := Lib.hid (HQy.out.ext (Ext.below hb1))
  clear hb1 HCy HRy HQy HBY c0 c1 y0 z0 hW HQ HR HC
  obtain ⟨c0, c1, c2, c3⟩ := HQ1.out
  obtain ⟨y0, y1, y2, y3, -⟩ := HR1.out
  unfold IntAt at y0 y1 y3
  unfold BoolAt at y2
  have z2 := HC1.out.c2
  by_cases h1 : r.owner = -1
  · have HX : Hid (ownedSpec c r m = !r.dealt) := Lib.hid (by rw [HS.out, if_pos h1])
    rw [h1] at y1
    clear h1 HS
    go_wp2_with fail
    go_ret
    exact ⟨ret_bool HX.out.symm, HB1.out⟩
  have o0 : 0 ≤ r.owner := by omega
  have e1 : (r.owner == -1) = false := by simp; omega
  have HS2 : Hid (ownedSpec c r m = if W = -1 ∨ (lvl c W = 0 ∧ m = 1) then false else if r.owner = W then !r.dealt else r.dealt && decide (lvl c r.owner = 0)) := Lib.hid (by rw [HS.out, if_neg h1])
  clear h1 HS
  by_cases h2 : W = -1
  · subst h2
    have HX : Hid (ownedSpec c r m = false) := Lib.hid (by rw [HS2.out, if_pos (Or.inl rfl)])
    clear HS2
    go_wp2_with fail
    go_ret
    exact ⟨ret_bool HX.out.symm, HB1.out⟩
  obtain ⟨V, rfl⟩ := Int.eq_ofNat_of_zero_le (show 0 ≤ W by omega)
  have v1 : V < c.parts.length := by omega
  obtain ⟨eb, eo, rfl, q0⟩ := level_cell HC1.out.is.parts v1
  have hW1 : ((V : Int) == -1) = false := by simp
  obtain ⟨L, hL⟩ : ∃ L, L = lvl c (V : Int) := ⟨_, rfl⟩
  rw [← hL] at q0
  have HS3 : Hid (ownedSpec c r m = if L = 0 ∧ m = 1 then false else if r.owner = (V : Int) then !r.dealt else r.dealt && decide (lvl c r.owner = 0)) := Lib.hid (by
    rw [HS2.out, ← hL]
    by_cases h3 : L = 0 ∧ m = 1
    · rw [if_pos (Or.inr h3), if_pos h3]
    · rw [if_neg (by rintro (h | h); exact h2 h; exact h3 h), if_neg h3])
  clear h2 HS2 hL
  by_cases h3 : L = 0 ∧ m = 1
  · obtain ⟨rfl, rfl⟩ := h3
    have HX : Hid (ownedSpec c r 1 = false) := Lib.hid (by rw [HS3.out, if_pos ⟨rfl, rfl⟩])
    clear HS3
    go_wp2_with fail
    go_ret
    exact ⟨ret_bool HX.out.symm, HB1.out⟩
  have HS4 : Hid (ownedSpec c r m = if r.owner = (V : Int) then !r.dealt else r.dealt && decide (lvl c r.owner = 0)) := Lib.hid (by rw [HS3.out, if_neg h3])
  obtain ⟨U, hU⟩ := Int.eq_ofNat_of_zero_le o0
  rw [hU] at y1 HS4 e1
  have u1 : U < c.parts.length := by omega
  obtain ⟨eb', eo', hpe, q1⟩ := level_cell HC1.out.is.parts u1
  injection hpe with hpe
  injection hpe with hp1 hp2 _
  subst hp1 hp2
  obtain ⟨M, hM⟩ : ∃ M, M = lvl c (U : Int) := ⟨_, rfl⟩
  rw [← hM] at q1 HS4
  clear hU hM HS3 m3 m4 o0
  have HN3 := Lib.hid h3
  clear h3
  by_cases h4 : U = V
  · subst h4
    have HX : Hid (ownedSpec c r m = !r.dealt) := Lib.hid (by rw [HS4.out, if_pos rfl])
    clear HS4 q1
    go_wp2_with fail
    all_goals first
      | (exfalso; refine HN3.out ?_; (try simp only [beq_iff_eq, beq_eq_false_iff_ne, bne_iff_ne, bne_eq_false_iff_eq, ne_eq, decide_eq_true_eq, decide_eq_false_iff_not, Int.not_lt, Int.not_le, Bool.not_eq_true, Bool.not_eq_false] at *); refine ⟨?_, ?_⟩ <;> omega)
      | (go_ret
         exact ⟨ret_bool HX.out.symm, HB1.out⟩)
  · have HX : Hid (ownedSpec c r m = (r.dealt && decide (M = 0))) := Lib.hid (by rw [HS4.out, if_neg (by omega)])
    have e4 : ((U : Int) == (V : Int)) = false := by simp; omega
    clear HS4 h4
    obtain ⟨D, hD⟩ : ∃ D, D = r.dealt := ⟨_, rfl⟩
    rw [← hD] at y2 HX
    clear hD
    cases D <;> go_wp2_with fail
    all_goals first
      | (exfalso; refine HN3.out ?_; (try simp only [beq_iff_eq, beq_eq_false_iff_ne, bne_iff_ne, bne_eq_false_iff_eq, ne_eq, decide_eq_true_eq, decide_eq_false_iff_not, Int.not_lt, Int.not_le, Bool.not_eq_true, Bool.not_eq_false] at *); refine ⟨?_, ?_⟩ <;> omega)
      | (go_ret
         exact ⟨ret_bool (by rw [HX.out, Bool.eq_iff_iff]; simp), HB1.out⟩)
end Go.Proofs.Ytfhebonhcolbdaa
