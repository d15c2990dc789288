/- What the reference answers of ports. -/
import Derived.Test.YthnecccakeminaaRef2
set_option linter.unusedVariables false
set_option linter.unusedSimpArgs false
namespace Go.Proofs.Ythnecccakeminaa
open Go.RowKit

set_option maxRecDepth 100000 in
set_option maxHeartbeats 1600000 in
theorem refPortsMay_any (c : Config) (v : Value) (w : World) (hc : CfgV w v c) :
    Calls Try.prog 50 #[v] w fun e w' => e = .returned (.bool (decide (c.ports.length ≤ 8) && c.ports.all (portMay c.parts))) ∧ Below w.heap.size w w' := by
  obtain ⟨pv, wv, ov, rfl, hcfg⟩ := hc
  have HBX := Lib.hid (balloc w (.cells #[.int .i64 c.frame, .int .i64 c.quiet, pv, wv, ov] 26))
  have hcc := cfg_box w c _ _ _ 26 hcfg
  obtain ⟨wb, hwb⟩ : ∃ wb, wb = w.alloc (.cells #[.int .i64 c.frame, .int .i64 c.quiet, pv, wv, ov] 26) := ⟨_, rfl⟩
  obtain ⟨g, hg⟩ : ∃ g, g = w.heap.size := ⟨_, rfl⟩
  rw [← hwb, ← hg] at hcc
  rw [← hwb] at HBX
  obtain ⟨oa, ocap, rfl, hw1, hw2, hw3, hw4⟩ := hcc.is.ports
  have HW := Lib.hid hw4
  have HC := Lib.hid hcc
  clear hw4 hcc hcfg
  have hl1 : c.ports.length ≤ 1000000000000000 := by omega
  go_enter Try.func50, Try.ntmps50
  go_wp2_with fail
  rw [← hwb, ← hg]
  clear hwb hg
  go_loopw [3, 4] (fun i _ wr => ∃ (k : Nat), k ≤ c.ports.length ∧ i = .int .i64 k ∧ Hid (c.ports.all (portMay c.parts) = (c.ports.drop k).all (portMay c.parts)) ∧ Below wb.heap.size wb wr) (fun i _ _ => c.ports.length - (intOf i).toNat)
  case atStart => exact ⟨0, by omega, rfl, Lib.hid (by simp), Below.refl _ _⟩
  case round =>
    obtain ⟨k, hk, rfl, HD, hB⟩ := hrel
    have HB := Lib.hid hB
    have hcr := HC.out.ext (Ext.below hB)
    have HCR := Lib.hid hcr
    have z0 := hcr.c0
    have z1 := hcr.c1
    have z2 := hcr.c2
    have z3 := hcr.c3
    have z4 := hcr.c4
    unfold IntAt at z0 z1
    have hgr : g < wr.heap.size := cell_lt z4
    clear hB hcr
    by_cases hlt : k < c.ports.length
    · obtain ⟨b, off, rfl, hcell⟩ := HW.out (by intro h; rw [h] at hlt; simp at hlt)
      obtain ⟨y0, y1, y2, y3⟩ := PortAt.ext (Ext.below HB.out) (hcell k hlt)
      unfold IntAt at y0 y1 y2 y3
      have hbr : b < wr.heap.size := cell_lt y0
      clear hcell
      have hstep := all_step (portMay c.parts) c.ports k hlt
      rw [← HD.out] at hstep
      have HS := Lib.hid hstep
      clear hstep HD
      have HBP := Lib.hid (balloc wr (.cells #[.int .i64 c.ports[k].kind, .int .i64 c.ports[k].from_, .int .i64 c.ports[k].to_, .int .i64 c.ports[k].size] 59))
      have HCB := Lib.hid (HCR.out.ext (Ext.below HBP.out))
      by_cases hk : c.ports[k].kind = 0 ∨ c.ports[k].kind = 1
      · have hke : ((c.ports[k].kind != 0) = false ∧ (c.ports[k].kind == 0) = true ∧ (c.ports[k].kind != 1) = true) ∨ ((c.ports[k].kind != 0) = true ∧ (c.ports[k].kind != 1) = false ∧ (c.ports[k].kind == 0) = false) := by
          rcases hk with hk | hk
          · left; simp [hk]
          · right; simp [hk]
        have HK := Lib.hid hk
        clear hk
        rcases hke with ⟨e1, e2, e3⟩ | ⟨e1, e2, e3⟩
        all_goals
          go_wp2_with fail
          refine (refLevel_any c _ _ _ ⟨_, _, _, rfl, HCB.out.is⟩).mono ?_
          rintro e w1 ⟨rfl, hb1⟩
          have HB1 := Lib.hid (bthen HBP.out hb1)
          have HC1 := Lib.hid (HCB.out.ext (Ext.below hb1))
          have c0 : w1.cell? ⟨wr.heap.size, 0, none⟩ = some (.int .i64 c.ports[k].kind) := Ext.below hb1 _ _ (box_at 0 rfl)
          have c1 : w1.cell? ⟨wr.heap.size, 1, none⟩ = some (.int .i64 c.ports[k].from_) := Ext.below hb1 _ _ (box_at 1 rfl)
          have c2 : w1.cell? ⟨wr.heap.size, 2, none⟩ = some (.int .i64 c.ports[k].to_) := Ext.below hb1 _ _ (box_at 2 rfl)
          have c3 : w1.cell? ⟨wr.heap.size, 3, none⟩ = some (.int .i64 c.ports[k].size) := Ext.below hb1 _ _ (box_at 3 rfl)
          have D2 := Lib.hid c2
          have D3 := Lib.hid c3
          have D0 := Lib.hid c0
          have hl1 := levelOf_is c.parts c.ports[k].from_ 1 (by decide)
          clear hb1 y0 y1 y2 y3 z0 z1 z2 z3 z4
          have z0 := HC1.out.c0; have z1 := HC1.out.c1; have z2 := HC1.out.c2; have z3 := HC1.out.c3; have z4 := HC1.out.c4; unfold IntAt at z0 z1
          cases hi1 : isPart c.parts c.ports[k].from_ 1 with
          | false =>
            rw [hi1] at hl1
            have e4 : (levelOf c.parts c.ports[k].from_ != 1) = true := by rw [bne, hl1]; rfl
            have HI1 := Lib.hid hi1
            clear hl1 hi1
            go_wp2_with fail
            go_ret
            exact ⟨ret_bool (by rw [HS.out]; unfold portMay; rw [HI1.out]; simp), bthen HBX.out (bthen HB.out HB1.out)⟩
          | true =>
            rw [hi1] at hl1
            have e4 : (levelOf c.parts c.ports[k].from_ != 1) = false := by rw [bne, hl1]; rfl
            have HI1 := Lib.hid hi1
            clear hl1 hi1
            go_wp2_with fail
            refine (refLevel_any c _ _ _ ⟨_, _, _, rfl, HC1.out.is⟩).mono ?_
            rintro e w2 ⟨rfl, hb2⟩
            have HB2 := Lib.hid (bthen HB1.out hb2)
            clear c0 c1 c2 c3 z0 z1 z2 z3 z4
            have c0 := Ext.below hb2 _ _ D0.out
            have c3 := Ext.below hb2 _ _ D3.out
            have hl2 := levelOf_is c.parts c.ports[k].to_ 0 (by decide)
            clear hb2
            cases hi2 : isPart c.parts c.ports[k].to_ 0 with
            | false =>
              rw [hi2] at hl2
              have e5 : (levelOf c.parts c.ports[k].to_ != 0) = true := by rw [bne, hl2]; rfl
              have HI2 := Lib.hid hi2
              clear hl2 hi2
              go_wp2_with fail
              go_ret
              exact ⟨ret_bool (by rw [HS.out]; unfold portMay; rw [HI2.out]; simp), bthen HBX.out (bthen HB.out HB2.out)⟩
            | true =>
              rw [hi2] at hl2
              have e5 : (levelOf c.parts c.ports[k].to_ != 0) = false := by rw [bne, hl2]; rfl
              have HI2 := Lib.hid hi2
              clear hl2 hi2
              go_wp2_with fail
              all_goals first
                | (go_ret
                   exact ⟨ret_bool (by
                     (try simp only [bne_iff_ne, beq_iff_eq, beq_eq_false_iff_ne, ne_eq, bne_eq_false_iff_eq] at *)
                     rw [HS.out]; unfold portMay; rw [HI1.out, HI2.out, decide_eq_false (p := _ ∧ _ ∧ _) (by have := HK.out; split <;> omega)]; simp), bthen HBX.out (bthen HB.out HB2.out)⟩)
                | (go_roundw
                   case rel => exact ⟨k + 1, by omega, by go_num, Lib.hid (by
                     (try simp only [bne_iff_ne, beq_iff_eq, beq_eq_false_iff_ne, ne_eq, bne_eq_false_iff_eq] at *)
                     rw [HS.out]; unfold portMay; rw [HI1.out, HI2.out, decide_eq_true (by have := HK.out; refine ⟨by omega, by omega, ?_⟩; split <;> omega)]; simp), bthen HB.out HB2.out⟩
                   case measure => simp [intOf]; omega)
      · have e1 : (c.ports[k].kind != 0) = true := by simp; omega
        have e2 : (c.ports[k].kind != 1) = true := by simp; omega
        have HK := Lib.hid hk
        clear hk
        go_wp2_with fail
        go_ret
        exact ⟨ret_bool (by rw [HS.out]; unfold portMay; simp; have := HK.out; omega), bthen HBX.out (bthen HB.out (balloc _ _))⟩
    · have hfin : c.ports.all (portMay c.parts) = true := by
        rw [HD.out, List.drop_of_length_le (by omega)]; rfl
      have HF := Lib.hid hfin
      clear hfin HD
      go_wp2_with fail
      go_ret
      exact ⟨ret_bool (by rw [HF.out, Bool.and_true]; (rw [Bool.eq_iff_iff]; (try simp only [beq_iff_eq, beq_eq_false_iff_ne, ne_eq] at *); (try simp); (try omega))), bthen HBX.out HB.out⟩
end Go.Proofs.Ythnecccakeminaa
