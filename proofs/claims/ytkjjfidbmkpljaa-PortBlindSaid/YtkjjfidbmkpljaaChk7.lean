/- What config.Check answers. -/
import Derived.Test.YtkjjfidbmkpljaaChk2
import Derived.Test.YtkjjfidbmkpljaaChk5
import Derived.Test.YtkjjfidbmkpljaaChk6
set_option linter.unusedVariables false
set_option linter.unusedSimpArgs false
namespace Go.Proofs.Ytkjjfidbmkpljaa
open Go.RowKit

set_option maxRecDepth 100000 in
set_option maxHeartbeats 400000 in
theorem chkA_any (x : Part) (tv cv : Value) (w : World) :
    Calls Try.prog 41 #[.agg #[.int .i64 x.level, tv, cv]] w fun e w' => e = .returned (.bool (!levelMay x)) ∧ Below w.heap.size w w' := by
  go_enter Try.func41, Try.ntmps41
  go_wp2_with fail
  refine (level_any _ _).mono ?_
  rintro e w' ⟨rfl, rfl⟩
  go_wp2_with fail
  go_ret
  exact ⟨ret_bool (by unfold levelMay; (rw [Bool.eq_iff_iff]; (try simp only [beq_iff_eq, beq_eq_false_iff_ne, ne_eq] at *); (try simp); (try omega))), balloc _ _⟩
set_option maxRecDepth 100000 in
set_option maxHeartbeats 400000 in
theorem chkB_any (x : Part) (tv cv : Value) (w : World) (hx : PartIs w tv cv x) :
    Calls Try.prog 43 #[.agg #[.int .i64 x.level, tv, cv]] w fun e w' => e = .returned (.bool (!tasksMay x)) ∧ Below w.heap.size w w' := by
  go_enter Try.func43, Try.ntmps43
  go_wp2_with fail
  refine (tasks_any w.heap.size x tv _ (box_at 0 rfl) (box_at 1 rfl) (hx.tasks.ext (Ext.alloc _ _))).mono ?_
  rintro e w' ⟨rfl, hb⟩
  go_wp2_with fail
  go_ret
  exact ⟨rfl, bthen (balloc _ _) hb⟩
set_option maxRecDepth 100000 in
set_option maxHeartbeats 400000 in
theorem chkC_any (x : Part) (tv cv : Value) (w : World) (hx : PartIs w tv cv x) :
    Calls Try.prog 45 #[.agg #[.int .i64 x.level, tv, cv]] w fun e w' => e = .returned (.bool (!codeMay x.code)) ∧ Below w.heap.size w w' := by
  go_enter Try.func45, Try.ntmps45
  go_wp2_with fail
  refine (codeMay_any cv x.code _ (hx.code.ext (Ext.alloc _ _))).mono ?_
  rintro e w' ⟨rfl, hb⟩
  go_wp2_with fail
  go_ret
  exact ⟨rfl, bthen (balloc _ _) hb⟩
set_option maxRecDepth 100000 in
set_option maxHeartbeats 400000 in
theorem chkD_any (g : Nat) (c : Config) (x : Port) (w : World) (hc : CfgP w g c) :
    Calls Try.prog 47 #[portV x, .pointer (some ⟨g, 0, none⟩)] w fun e w' => e = .returned (.bool (!portMay c.parts x)) ∧ Below w.heap.size w w' := by
  have HC := Lib.hid hc
  clear hc
  go_enter Try.func47, Try.ntmps47
  go_wp2_with fail
  refine (port_any g c x _ (HC.out.ext (Ext.alloc _ _))).mono ?_
  rintro e w' ⟨rfl, hb⟩
  go_wp2_with fail
  go_ret
  exact ⟨rfl, bthen (balloc _ _) hb⟩

theorem cfg_box (w : World) (c : Config) (pv wv ov : Value) (t : TypeId) (h : CfgIs w pv wv ov c) : CfgC (w.alloc (.cells #[.int .i64 c.frame, .int .i64 c.quiet, pv, wv, ov] t)) w.heap.size pv wv ov c :=
  ⟨box_at 0 rfl, box_at 1 rfl, box_at 2 rfl, box_at 3 rfl, box_at 4 rfl, h.ext (Ext.alloc _ _)⟩

set_option maxRecDepth 100000 in
set_option maxHeartbeats 1000000 in
theorem check_any (c : Config) (v : Value) (w : World) (hc : CfgV w v c) :
    Calls Try.prog 27 #[v] w fun e w' => e = .returned (.int .i64 (checkCfg c)) ∧ Below w.heap.size w w' := by
  obtain ⟨pv, wv, ov, rfl, hcfg⟩ := hc
  have HC := Lib.hid hcfg
  obtain ⟨pa, pcap, rfl, hp1, hp2, hp3, hp4⟩ := hcfg.parts
  obtain ⟨oa, ocap, rfl, ho1, ho2, ho3, ho4⟩ := hcfg.ports
  clear hp4 ho4 hcfg
  by_cases hb1 : c.frame < 1 ∨ c.frame > 256 ∨ c.quiet < 1 ∨ c.quiet > 16
  · have HX : Hid (checkCfg c = 501) := Lib.hid (by unfold checkCfg; rw [if_pos hb1])
    have hb1 := Lib.hid hb1
    go_enter Try.func27, Try.ntmps27
    go_wp2_with fail
    all_goals first
      | (go_ret; exact ⟨ret_int HX.out.symm, balloc _ _⟩)
      | (exfalso; have := hb1.out; omega)
  by_cases hb2 : c.parts.length < 1 ∨ c.parts.length > 8
  · have HX : Hid (checkCfg c = 502) := Lib.hid (by unfold checkCfg; rw [if_neg hb1, if_pos (by omega)])
    have f1 : 1 ≤ c.frame := by omega
    have f2 : c.frame ≤ 256 := by omega
    have f3 : 1 ≤ c.quiet := by omega
    have f4 : c.quiet ≤ 16 := by omega
    have hb2 := Lib.hid hb2
    clear hb1
    go_enter Try.func27, Try.ntmps27
    go_wp2_with fail
    all_goals first
      | (go_ret; exact ⟨ret_int HX.out.symm, balloc _ _⟩)
      | (exfalso; have := hb2.out; omega)
  have f1 : 1 ≤ c.frame := by omega
  have f2 : c.frame ≤ 256 := by omega
  have f3 : 1 ≤ c.quiet := by omega
  have f4 : c.quiet ≤ 16 := by omega
  have f5 : 1 ≤ c.parts.length := by omega
  have f6 : c.parts.length ≤ 8 := by omega
  have HB1 := Lib.hid hb1
  clear hb1 hb2
  obtain ⟨g, hg⟩ : ∃ g, g = w.heap.size := ⟨_, rfl⟩
  go_enter Try.func27, Try.ntmps27
  go_wp2_with fail
  have hbox := cfg_box w c _ _ _ 26 HC.out
  obtain ⟨w0, hw0⟩ : ∃ w0 : World, w0 = w.alloc (.cells #[.int .i64 c.frame, .int .i64 c.quiet, .slice pa c.parts.length pcap, wv, .slice oa c.ports.length ocap] 26) := ⟨_, rfl⟩
  rw [← hw0, ← hg] at hbox
  rw [← hw0, ← hg]
  have hB0 : Below w.heap.size w w0 := by rw [hw0]; exact balloc _ _
  have HB0 := Lib.hid hB0
  have HP := Lib.hid hbox
  have HCC := Lib.hid (HC.out.ext (Ext.below hB0))
  clear hB0 hbox hw0 hg HC
  refine (containsPartA_any _ c.parts (fun p => !levelMay p) w0 HCC.out.parts (fun i h tv cv W hW hp => chkA_any _ _ _ W)).mono ?_
  rintro e w1 ⟨rfl, hb1⟩
  cases hA : c.parts.any (fun p => !levelMay p) with
  | true =>
    have HX : Hid (checkCfg c = 502) := Lib.hid (by unfold checkCfg; rw [if_neg HB1.out, if_pos (Or.inr (Or.inr hA))])
    clear hA
    go_wp2_with fail
    go_ret
    exact ⟨ret_int HX.out.symm, bthen HB0.out hb1⟩
  | false =>
  have HA : Hid (¬ (c.parts.length < 1 ∨ c.parts.length > 8 ∨ c.parts.any (fun p => !levelMay p) = true)) := Lib.hid (by rw [hA]; rintro (h | h | h); omega; omega; exact Bool.noConfusion h)
  clear hA
  have HB2 := Lib.hid (bthen HB0.out hb1)
  have HP1 := Lib.hid (HP.out.ext (Ext.below hb1))
  have r2 := HP1.out.c2
  clear hb1 HB0 HCC HP
  go_wp2_with fail
  refine (containsPartB_any _ c.parts (fun p => !tasksMay p) w1 HP1.out.is.parts (fun i h tv cv W hW hp => chkB_any _ _ _ W hp)).mono ?_
  rintro e w2 ⟨rfl, hb2⟩
  clear r2
  cases hB : c.parts.any (fun p => !tasksMay p) with
  | true =>
    have HX : Hid (checkCfg c = 503) := Lib.hid (by unfold checkCfg; rw [if_neg HB1.out, if_neg HA.out, if_pos hB])
    clear hB
    go_wp2_with fail
    go_ret
    exact ⟨ret_int HX.out.symm, bthen HB2.out hb2⟩
  | false =>
  have HBB : Hid (¬ (c.parts.any (fun p => !tasksMay p) = true)) := Lib.hid (by rw [hB]; exact Bool.noConfusion)
  clear hB
  have HB3 := Lib.hid (bthen HB2.out hb2)
  have HP2 := Lib.hid (HP1.out.ext (Ext.below hb2))
  clear hb2 HB2 HP1
  go_wp2_with fail
  refine (windows_any g c w2 HP2.out.p).mono ?_
  rintro e w3 ⟨rfl, hb3⟩
  cases hW : windowsMay c with
  | false =>
    have HX : Hid (checkCfg c = 504) := Lib.hid (by unfold checkCfg; rw [if_neg HB1.out, if_neg HA.out, if_neg HBB.out, if_pos hW])
    clear hW
    go_wp2_with fail
    go_ret
    exact ⟨ret_int HX.out.symm, bthen HB3.out hb3⟩
  | true =>
  have HWW : Hid (¬ (windowsMay c = false)) := Lib.hid (by rw [hW]; exact Bool.noConfusion)
  clear hW
  have HB4 := Lib.hid (bthen HB3.out hb3)
  have HP3 := Lib.hid (HP2.out.ext (Ext.below hb3))
  clear hb3 HB3 HP2
  have r4 := HP3.out.c4
  by_cases h8 : 8 < c.ports.length
  · have HX : Hid (checkCfg c = 505) := Lib.hid (by unfold checkCfg; rw [if_neg HB1.out, if_neg HA.out, if_neg HBB.out, if_neg HWW.out, if_pos (Or.inl h8)])
    go_wp2_with fail
    go_ret
    exact ⟨ret_int HX.out.symm, HB4.out⟩
  have h8' : c.ports.length ≤ 8 := by omega
  go_wp2_with fail
  refine (containsPort_any _ _ c.ports (fun p => !portMay c.parts p) w3 HP3.out.is.ports (fun i h W hW => chkD_any g c _ W (HP3.out.ext (Ext.below hW)).p)).mono ?_
  rintro e w4 ⟨rfl, hb4⟩
  clear r4
  cases hD : c.ports.any (fun p => !portMay c.parts p) with
  | true =>
    have HX : Hid (checkCfg c = 505) := Lib.hid (by unfold checkCfg; rw [if_neg HB1.out, if_neg HA.out, if_neg HBB.out, if_neg HWW.out, if_pos (Or.inr hD)])
    clear hD
    go_wp2_with fail
    go_ret
    exact ⟨ret_int HX.out.symm, bthen HB4.out hb4⟩
  | false =>
  have HDD : Hid (¬ (c.ports.length > 8 ∨ c.ports.any (fun p => !portMay c.parts p) = true)) := Lib.hid (by rw [hD]; rintro (h | h); omega; exact Bool.noConfusion h)
  clear hD
  have HB5 := Lib.hid (bthen HB4.out hb4)
  have HP4 := Lib.hid (HP3.out.ext (Ext.below hb4))
  clear hb4 HB4 HP3
  have r2 := HP4.out.c2
  go_wp2_with fail
  refine (containsPartC_any _ c.parts (fun p => !codeMay p.code) w4 HP4.out.is.parts (fun i h tv cv W hW hp => chkC_any _ _ _ W hp)).mono ?_
  rintro e w5 ⟨rfl, hb5⟩
  clear r2
  cases hC : c.parts.any (fun p => !codeMay p.code) with
  | true =>
    have HX : Hid (checkCfg c = 506) := Lib.hid (by unfold checkCfg; rw [if_neg HB1.out, if_neg HA.out, if_neg HBB.out, if_neg HWW.out, if_neg HDD.out, if_pos hC])
    clear hC
    go_wp2_with fail
    go_ret
    exact ⟨ret_int HX.out.symm, bthen HB5.out hb5⟩
  | false =>
  have HX : Hid (checkCfg c = 0) := Lib.hid (by unfold checkCfg; rw [if_neg HB1.out, if_neg HA.out, if_neg HBB.out, if_neg HWW.out, if_neg HDD.out, if_neg (by rw [hC]; exact Bool.noConfusion)])
  clear hC
  go_wp2_with fail
  go_ret
  exact ⟨ret_int HX.out.symm, bthen HB5.out hb5⟩
end Go.Proofs.Ytkjjfidbmkpljaa
