/- What the reference answers of rows. -/
import Derived.Test.YtfhebonhcolbdaaAud4
import Derived.Test.YtfhebonhcolbdaaRefW
set_option linter.unusedVariables false
set_option linter.unusedSimpArgs false
namespace Go.Proofs.Ytfhebonhcolbdaa
open Go.RowKit

set_option maxRecDepth 100000 in
set_option maxHeartbeats 1600000 in
theorem refRowsMay_any (c : Config) (v : Value) (rv : Value) (rs : List Row) (w : World) (hc : CfgV w v c) (hv : RowsV w rv rs) :
    Calls Try.prog 24 #[v, rv] w fun e w' => e = .returned (.bool (rowsMay c rs)) ∧ Below w.heap.size w w' := by
  obtain ⟨pv, wv, ov, rfl, hcfg⟩ := hc
  obtain ⟨pa, pk, wa, wk, oa, ok, rfl, rfl, rfl⟩ := hcfg.shape
  have HB0 := Lib.hid (balloc w (.cells #[.int .i64 c.frame, .int .i64 c.quiet, .slice pa c.parts.length pk, .slice wa c.windows.length wk, .slice oa c.ports.length ok] 26))
  have HC0 := Lib.hid (cfg_box w c _ _ _ 26 hcfg)
  obtain ⟨a, cap, rfl, h2, h3, h4, h5⟩ := hv
  have HV := Lib.hid h5
  have hl : rs.length ≤ 1000000000000000 := by omega
  obtain ⟨g, hg⟩ : ∃ g, g = w.heap.size := ⟨_, rfl⟩
  rw [← hg] at HC0
  have HG := Lib.hid hg
  clear hcfg hg h5
  go_enter Try.func24, Try.ntmps24
  go_wp2_with fail
  rw [← HG.out]
  refine (refCheck_any c _ _ ⟨_, _, _, rfl, HC0.out.is⟩).mono ?_
  rintro e w1 ⟨rfl, hb1⟩
  have HB1 := Lib.hid (bthen HB0.out hb1)
  have HC1 := Lib.hid (HC0.out.ext (Ext.below hb1))
  clear hb1 HB0 HC0
  by_cases hk : checkCfg c = 0
  · have e1 : (checkCfg c != 0) = false := by rw [hk]; rfl
    have HK := Lib.hid hk
    have lp : c.parts.length ≤ 8 := (check_ok hk).2.2.2.2.2.1
    clear hk
    go_wp2_with fail
    clear e1
    go_loopw [5, 6] (fun i _ wr => ∃ k : Nat, k ≤ rs.length ∧ i = .int .i64 k ∧ Hid (rs.all (rowMay c) = (rs.drop k).all (rowMay c)) ∧ Hid (Ext w1 wr) ∧ Below w.heap.size w wr) (fun i _ _ => rs.length - (intOf i).toNat)
    case atStart => exact ⟨0, by omega, rfl, Lib.hid (by simp), Lib.hid (Ext.refl _), HB1.out⟩
    case round =>
      obtain ⟨k, hk, rfl, HD, HE, hB⟩ := hrel
      have HB := Lib.hid hB
      have z2 := HE.out _ _ HC1.out.c2
      clear hB
      by_cases hlt : k < rs.length
      · obtain ⟨b, off, rfl, hcell⟩ := HV.out (by intro h; rw [h] at hlt; simp at hlt)
        obtain ⟨y0, y1, y2, y3, ev, y4, hev⟩ := RowAt.ext (Ext.below HB.out) (hcell k hlt)
        obtain ⟨ea, ecap, rfl, -⟩ := hev
        unfold IntAt at y0 y1 y3
        unfold BoolAt at y2
        have hstep := all_step (rowMay c) rs k hlt
        rw [← HD.out] at hstep
        have HS := Lib.hid hstep
        have hgr : g < wr.heap.size := cell_lt z2
        clear hcell hstep HD
        go_wp2_with fail
        all_goals first
          | (go_ret
             exact ⟨ret_bool (by unfold rowsMay; rw [HS.out]; (try simp only [beq_iff_eq, beq_eq_false_iff_ne, bne_iff_ne, bne_eq_false_iff_eq, ne_eq, decide_eq_true_eq, decide_eq_false_iff_not, Int.not_lt, Int.not_le, Bool.not_eq_true, Bool.not_eq_false] at *); simp [rowMay] <;> omega), bthen HB.out (balloc _ _)⟩)
          | (go_roundw
             case rel => exact ⟨k + 1, by omega, by go_num, Lib.hid (by rw [HS.out]; (try simp only [beq_iff_eq, beq_eq_false_iff_ne, bne_iff_ne, bne_eq_false_iff_eq, ne_eq, decide_eq_true_eq, decide_eq_false_iff_not, Int.not_lt, Int.not_le, Bool.not_eq_true, Bool.not_eq_false] at *); simp [rowMay] <;> omega), Lib.hid (HE.out.trans (Ext.alloc _ _)), bthen HB.out (balloc _ _)⟩
             case measure => simp [intOf]; omega)
      · have hfin : rs.all (rowMay c) = true := by
          rw [HD.out, List.drop_of_length_le (by omega)]; rfl
        have HF := Lib.hid hfin
        clear hfin HD
        go_wp2_with fail
        go_ret
        exact ⟨ret_bool (by unfold rowsMay; rw [HF.out, HK.out]; rfl), HB.out⟩
  · have e1 : (checkCfg c != 0) = true := by simpa using hk
    have HX : Hid (rowsMay c rs = false) := Lib.hid (by unfold rowsMay; rw [decide_eq_false hk, Bool.and_false])
    clear hk
    go_wp2_with fail
    go_ret
    exact ⟨ret_bool HX.out.symm, HB1.out⟩
abbrev rowV (r : Row) (ev : Value) : Value := .agg #[.int .i64 r.tick, .int .i64 r.owner, .bool r.dealt, .int .i64 r.mode, ev]

set_option maxRecDepth 100000 in
set_option maxHeartbeats 3000000 in
theorem refOwned_any (c : Config) (v ev : Value) (r : Row) (m : Int) (w : World) (hc : CfgV w v c) (hk : checkCfg c = 0) (hm : rowMay c r = true) :
    Calls Try.prog 25 #[v, rowV r ev, .int .i64 m] w fun e w' => e = .returned (.bool (ownedSpec c r m)) ∧ Below w.heap.size w w' := by
  obtain ⟨pv, wv, ov, rfl, hcfg⟩ := hc
  obtain ⟨pa, pk, wa, wk, oa, ok, rfl, rfl, rfl⟩ := hcfg.shape
  have HB0 := Lib.hid (bthen (balloc w (.cells #[.int .i64 c.frame, .int .i64 c.quiet, .slice pa c.parts.length pk, .slice wa c.windows.length wk, .slice oa c.ports.length ok] 26)) (balloc _ (.cells #[.int .i64 r.tick, .int .i64 r.owner, .bool r.dealt, .int .i64 r.mode, ev] 45)))
  have HC0 := Lib.hid ((cfg_box w c _ _ _ 26 hcfg).ext (Ext.alloc _ (.cells #[.int .i64 r.tick, .int .i64 r.owner, .bool r.dealt, .int .i64 r.mode, ev] 45)))
  have ho := check_ok hk
  have hbd := owner_bd c (r.tick % c.frame) hk
  unfold rowMay at hm
  rw [decide_eq_true_eq] at hm
  obtain ⟨m1, m2, m3, m4, m5⟩ := hm
  have f1 : 1 ≤ c.frame := ho.1
  have f2 : c.frame ≤ 256 := ho.2.1
  have lp : c.parts.length ≤ 8 := ho.2.2.2.2.2.1
  obtain ⟨D, hD⟩ : ∃ D, D = r.dealt := ⟨_, rfl⟩
  clear ho hk m5 hcfg
  go_enter Try.func25, Try.ntmps25
  by_cases h1 : r.owner = -1
  · have HX : Hid (ownedSpec c r m = !r.dealt) := Lib.hid (by unfold ownedSpec; rw [if_pos h1])
    have e1 : (r.owner == -1) = true := by simp [h1]
    clear h1 hbd hD
    go_wp2_with fail
    go_ret
    exact ⟨ret_bool HX.out.symm, HB0.out⟩
  have e1 : (r.owner == -1) = false := by simp [h1]
  have o0 : 0 ≤ r.owner := by omega
  have HS2 : Hid (ownedSpec c r m = if ownerAt (r.tick % c.frame) c.windows = -1 ∨ (lvl c (ownerAt (r.tick % c.frame) c.windows) = 0 ∧ m = 1) then false else if r.owner = ownerAt (r.tick % c.frame) c.windows then !r.dealt else r.dealt && decide (lvl c r.owner = 0)) := Lib.hid (by unfold ownedSpec; rw [if_neg h1])
  clear h1
  go_wp2_with fail
  refine (refWindow_any c _ r.tick _ ⟨_, _, _, rfl, HC0.out.is⟩ f1 f2 m1 (by omega)).mono ?_
  rintro e w1 ⟨rfl, hb1⟩
  obtain ⟨W, hW⟩ : ∃ W, W = ownerAt (r.tick % c.frame) c.windows := ⟨_, rfl⟩
  rw [← hW] at hbd HS2 ⊢
  obtain ⟨b0, b1⟩ := hbd
  have HB1 := Lib.hid (bthen HB0.out hb1)
  have HC1 := Lib.hid (HC0.out.ext (Ext.below hb1))
  obtain ⟨c1, fz1⟩ := bcell hb1
  have z2 := HC1.out.c2
  have HBC := Lib.hid c1
  have y1 : w1.cell? ⟨w.heap.size + 1, 1, none⟩ = some (.int .i64 r.owner) := by
    rw [c1 _ _ (by simp)]
    simp
  have y2 : w1.cell? ⟨w.heap.size + 1, 2, none⟩ = some (.bool D) := by
    rw [c1 _ _ (by simp), hD]
    simp
  rw [← hD] at HS2
  clear c1 fz1 hb1 HC0 HB0 hW hD
  by_cases h2 : W = -1
  · subst h2
    have HX : Hid (ownedSpec c r m = false) := Lib.hid (by rw [HS2.out, if_pos (Or.inl rfl)])
    clear HS2
    go_wp2_with fail
    go_ret
    exact ⟨ret_bool HX.out.symm, HB1.out⟩
  obtain ⟨V, rfl⟩ := Int.eq_ofNat_of_zero_le (show 0 ≤ W by omega)
  have v1 : V < c.parts.length := by omega
  obtain ⟨eb, eo, rfl, q0⟩ := level_cell HC1.out.is.parts v1
  obtain ⟨L, hL⟩ : ∃ L, L = lvl c (V : Int) := ⟨_, rfl⟩
  rw [← hL] at q0
  have HS3 : Hid (ownedSpec c r m = if L = 0 ∧ m = 1 then false else if r.owner = (V : Int) then !D else D && decide (lvl c r.owner = 0)) := Lib.hid (by
    rw [HS2.out, ← hL]
    by_cases h3 : L = 0 ∧ m = 1
    · rw [if_pos (Or.inr h3), if_pos h3]
    · rw [if_neg (by rintro (h | h); exact h2 h; exact h3 h), if_neg h3])
  clear h2 HS2 hL
  by_cases h3 : L = 0 ∧ m = 1
  · obtain ⟨rfl, rfl⟩ := h3
    have HX : Hid (ownedSpec c r 1 = false) := Lib.hid (by rw [HS3.out, if_pos ⟨rfl, rfl⟩])
    clear HS3
    go_wp2_with fail
    go_ret
    exact ⟨ret_bool HX.out.symm, HB1.out⟩
  have HS4 : Hid (ownedSpec c r m = if r.owner = (V : Int) then !D else D && decide (lvl c r.owner = 0)) := Lib.hid (by rw [HS3.out, if_neg h3])
  obtain ⟨U, hU⟩ := Int.eq_ofNat_of_zero_le o0
  rw [hU] at y1 HS4
  have u1 : U < c.parts.length := by omega
  obtain ⟨eb', eo', hpe, q1⟩ := level_cell HC1.out.is.parts u1
  injection hpe with hpe
  injection hpe with hp1 hp2 _
  subst hp1 hp2
  obtain ⟨M, hM⟩ : ∃ M, M = lvl c (U : Int) := ⟨_, rfl⟩
  rw [← hM] at q1 HS4
  have HN3 := Lib.hid h3
  clear hU hM HS3 m3 m4 o0 h3
  by_cases h4 : U = V
  · subst h4
    have HX : Hid (ownedSpec c r m = !D) := Lib.hid (by rw [HS4.out, if_pos rfl])
    clear HS4 q1
    cases D <;> go_wp2_with fail
    all_goals first
      | (exfalso; refine HN3.out ?_; (try simp only [beq_iff_eq, beq_eq_false_iff_ne, bne_iff_ne, bne_eq_false_iff_eq, ne_eq, decide_eq_true_eq, decide_eq_false_iff_not, Int.not_lt, Int.not_le, Bool.not_eq_true, Bool.not_eq_false] at *); refine ⟨?_, ?_⟩ <;> omega)
      | (go_ret
         exact ⟨ret_bool (by rw [HX.out]; rfl), HB1.out⟩)
  · have HX : Hid (ownedSpec c r m = (D && decide (M = 0))) := Lib.hid (by rw [HS4.out, if_neg (by omega)])
    have e4 : ((U : Int) == (V : Int)) = false := by simp; omega
    have e5 : ((U : Int) != (V : Int)) = true := by simp; omega
    clear HS4 h4
    cases D <;> go_wp2_with fail
    all_goals first
      | (exfalso; refine HN3.out ?_; (try simp only [beq_iff_eq, beq_eq_false_iff_ne, bne_iff_ne, bne_eq_false_iff_eq, ne_eq, decide_eq_true_eq, decide_eq_false_iff_not, Int.not_lt, Int.not_le, Bool.not_eq_true, Bool.not_eq_false] at *); refine ⟨?_, ?_⟩ <;> omega)
      | (go_ret
         exact ⟨ret_bool (by rw [HX.out, Bool.eq_iff_iff]; simp), HB1.out⟩)
end Go.Proofs.Ytfhebonhcolbdaa
