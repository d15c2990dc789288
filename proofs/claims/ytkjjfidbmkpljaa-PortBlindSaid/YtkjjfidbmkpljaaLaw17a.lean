/- Chapter 17's laws: awake. -/
import Derived.Test.YtkjjfidbmkpljaaPrt3
import Derived.Test.YtkjjfidbmkpljaaIntC
import Derived.Test.YtkjjfidbmkpljaaPlB
set_option linter.unusedVariables false
set_option linter.unusedSimpArgs false
namespace Go.Proofs.Ytkjjfidbmkpljaa
open Go.RowKit

theorem num_any (x : Int) (w : World) : Calls Try.prog 11 #[.int .i64 x] w fun e w' => e = .returned (.int .i64 x) ∧ w' = w := by
  go_enter Try.func11, Try.ntmps11
  go_wp2_with fail
  go_ret
  exact ⟨rfl, rfl⟩
theorem PortsIs.keep {W W' : World} {pb lo hi : Nat} {S : PSt} (h : PortsIs W pb lo hi S) (hb : Below W.heap.size W W') : PortsIs W' pb lo hi S := by
  obtain ⟨Ls, h1, h2⟩ := h
  exact ⟨Ls, h1.keep hb, h2⟩
/-- ports.New, told by what the ports hold. -/
theorem ports_make (c : Config) (v : Value) (w : World) (hc : CfgV w v c) (hck : checkCfg c = 0) :
    Calls Try.prog 9 #[v] w fun e w' => ∃ pb, e = .returned (.tuple #[.pointer (some ⟨pb, 0, none⟩), .int .i64 0]) ∧ PortsIs w' pb w.heap.size w'.heap.size (c.ports.map (fun p => (p, []))) ∧ Below w.heap.size w w' := by
  refine (ports_new c v w hc).mono ?_
  rintro e w' ⟨-, h, hb⟩
  obtain ⟨pb, Ls, rfl, hp, hm, hq⟩ := h hck
  refine ⟨pb, rfl, ⟨Ls, hp, ?_⟩, hb⟩
  rw [← hm, List.map_map]
  exact List.map_congr_left (fun l hl => by simp [Ln.st, hq l hl])
theorem ports_none (c : Config) (v : Value) (w : World) (hc : CfgV w v c) (hck : checkCfg c ≠ 0) :
    Calls Try.prog 9 #[v] w fun e w' => e = .returned (.tuple #[.pointer none, .int .i64 1700]) ∧ Below w.heap.size w w' := by
  refine (ports_new c v w hc).mono ?_
  rintro e w' ⟨h, -, hb⟩
  exact ⟨h hck, hb⟩
theorem between_below {B lo hi : Nat} {w w' : World} (h : Keeps (Between lo hi) w w') (hB : B ≤ w.heap.size) (hlo : B ≤ lo) : Below B w w' := h.below hB (fun k hk => Nat.le_trans hlo hk.1)
def emptyCfg : Config := ⟨0, 0, [], [], []⟩
abbrev aP : Port := ⟨1, 0, 1, 2⟩
set_option maxRecDepth 100000 in
set_option maxHeartbeats 16000000 in
theorem awake17 (w : World) : Calls Try.prog 12 #[] w fun e w' => e = .returned (.bool true) ∧ Below w.heap.size w w' := by
  go_enter Try.func12, Try.ntmps12
  go_wp2_with fail
  refine (plain17_any w).mono ?_
  rintro e w1 ⟨v, rfl, hc, hb⟩
  have HB1 := Lib.hid hb
  clear hb
  go_wp2_with fail
  refine (ports_make plainCfg v w1 hc (by decide)).mono ?_
  rintro e w2 ⟨pb, rfl, hp, hb⟩
  have HP2 := Lib.hid (show PortsIs w2 pb w1.heap.size w2.heap.size [(aP, [])] from hp)
  have HB2 := Lib.hid (bthen HB1.out hb)
  have HLO := Lib.hid HB1.out.size
  obtain ⟨lo, hlo⟩ : ∃ lo, lo = w1.heap.size := ⟨_, rfl⟩
  obtain ⟨hi, hhi⟩ : ∃ hi, hi = w2.heap.size := ⟨_, rfl⟩
  rw [← hlo] at HP2 HLO
  rw [← hhi] at HP2
  clear hc hp hb hlo hhi
  go_wp2_with fail
  refine (ports_none emptyCfg _ _ ⟨_, _, _, rfl, ⟨slice0 _ _ _ _, slice0 _ _ _ _, slice0 _ _ _ _⟩⟩ (by decide)).mono ?_
  rintro e w3 ⟨rfl, hb⟩
  have HP3 := Lib.hid (HP2.out.keep hb)
  have HB3 := Lib.hid (bthen HB2.out hb)
  clear hb
  go_wp2_with (first | (go_at_call 11; refine (num_any _ _).mono ?_; rintro e w' ⟨rfl, hw⟩; subst w') | fail)
  refine (ports_write pb lo hi [(aP, [])] (0) (0) (5) _ HP3.out).mono ?_
  rw [show wDrop [(aP, [])] (0) (0) (5) = false by decide, show wErr [(aP, [])] (0) (0) (5) = 0 by decide, show wSt [(aP, [])] (0) (0) (5) = [(aP, [5])] from rfl]
  rintro e w4 ⟨rfl, hp, hk⟩
  have HP4 := Lib.hid hp
  have HB4 := Lib.hid (HB3.out.trans (between_below hk HB3.out.size HLO.out))
  clear hp hk
  go_wp2_with (first | (go_at_call 11; refine (num_any _ _).mono ?_; rintro e w' ⟨rfl, hw⟩; subst w') | fail)
  refine (ports_write pb lo hi [(aP, [5])] (0) (0) (6) _ HP4.out).mono ?_
  rw [show wDrop [(aP, [5])] (0) (0) (6) = false by decide, show wErr [(aP, [5])] (0) (0) (6) = 0 by decide, show wSt [(aP, [5])] (0) (0) (6) = [(aP, [5, 6])] from rfl]
  rintro e w5 ⟨rfl, hp, hk⟩
  have HP5 := Lib.hid hp
  have HB5 := Lib.hid (HB4.out.trans (between_below hk HB4.out.size HLO.out))
  clear hp hk
  go_wp2_with (first | (go_at_call 11; refine (num_any _ _).mono ?_; rintro e w' ⟨rfl, hw⟩; subst w') | fail)
  refine (ports_write pb lo hi [(aP, [5, 6])] (0) (0) (7) _ HP5.out).mono ?_
  rw [show wDrop [(aP, [5, 6])] (0) (0) (7) = true by decide, show wErr [(aP, [5, 6])] (0) (0) (7) = 0 by decide, show wSt [(aP, [5, 6])] (0) (0) (7) = [(aP, [6, 7])] from rfl]
  rintro e w6 ⟨rfl, hp, hk⟩
  have HP6 := Lib.hid hp
  have HB6 := Lib.hid (HB5.out.trans (between_below hk HB5.out.size HLO.out))
  clear hp hk
  go_wp2_with (first | (go_at_call 11; refine (num_any _ _).mono ?_; rintro e w' ⟨rfl, hw⟩; subst w') | fail)
  refine (ports_write pb lo hi [(aP, [6, 7])] (1) (0) (7) _ HP6.out).mono ?_
  rw [show wDrop [(aP, [6, 7])] (1) (0) (7) = false by decide, show wErr [(aP, [6, 7])] (1) (0) (7) = 1701 by decide, show wSt [(aP, [6, 7])] (1) (0) (7) = [(aP, [6, 7])] from rfl]
  rintro e w7 ⟨rfl, hp, hk⟩
  have HP7 := Lib.hid hp
  have HB7 := Lib.hid (HB6.out.trans (between_below hk HB6.out.size HLO.out))
  clear hp hk
  go_wp2_with (first | (go_at_call 11; refine (num_any _ _).mono ?_; rintro e w' ⟨rfl, hw⟩; subst w') | fail)
  refine (ports_gets pb lo hi [(aP, [6, 7])] 1 _ HP7.out (by decide)).mono ?_
  rw [show getsS [(aP, [6, 7])] 1 = [6] by decide]
  rintro e w8 ⟨gv, rfl, hg, hb⟩
  have HP8 := Lib.hid (HP7.out.keep hb)
  have HB8 := Lib.hid (bthen HB7.out hb)
  obtain ⟨base, hbase⟩ : ∃ base, base = w7.heap.size := ⟨_, rfl⟩
  have HBA := Lib.hid (show hi ≤ base by rw [hbase]; obtain ⟨Ls, h1, h2⟩ := HP7.out; exact h1.hi2)
  rw [← hbase] at hg
  have HG8 := Lib.hid hg
  clear hg hb hbase
  go_wp2_with (first | (go_at_call 11; refine (num_any _ _).mono ?_; rintro e w' ⟨rfl, hw⟩; subst w') | fail)
  refine (ports_take pb lo hi [(aP, [6, 7])] (1) (0) _ HP8.out).mono ?_
  rw [show tVal [(aP, [6, 7])] (1) (0) = 6 by decide, show tIs [(aP, [6, 7])] (1) (0) = true by decide, show tErr [(aP, [6, 7])] (1) (0) = 0 by decide, show tSt [(aP, [6, 7])] (1) (0) = [(aP, [7])] from rfl]
  rintro e w9 ⟨rfl, hp, hk⟩
  have HP9 := Lib.hid hp
  have HB9 := Lib.hid (HB8.out.trans (between_below hk HB8.out.size HLO.out))
  have HG9 := Lib.hid (show IntRow w9 base gv [6] from Keeps.own HG8.out hk (fun g hg hf => by have := (HG8.out.lt g hg).1; have := HBA.out; have := hf.2; omega))
  clear hp hk
  go_wp2_with (first | (go_at_call 11; refine (num_any _ _).mono ?_; rintro e w' ⟨rfl, hw⟩; subst w') | fail)
  refine (ports_take pb lo hi [(aP, [7])] (0) (0) _ HP9.out).mono ?_
  rw [show tVal [(aP, [7])] (0) (0) = 0 by decide, show tIs [(aP, [7])] (0) (0) = false by decide, show tErr [(aP, [7])] (0) (0) = 1701 by decide, show tSt [(aP, [7])] (0) (0) = [(aP, [7])] from rfl]
  rintro e w10 ⟨rfl, hp, hk⟩
  have HP10 := Lib.hid hp
  have HB10 := Lib.hid (HB9.out.trans (between_below hk HB9.out.size HLO.out))
  have HG10 := Lib.hid (show IntRow w10 base gv [6] from Keeps.own HG9.out hk (fun g hg hf => by have := (HG9.out.lt g hg).1; have := HBA.out; have := hf.2; omega))
  clear hp hk
  go_wp2_with (first | (go_at_call 11; refine (num_any _ _).mono ?_; rintro e w' ⟨rfl, hw⟩; subst w') | fail)
  refine (ports_write pb lo hi [(aP, [7])] (0) (1) (5) _ HP10.out).mono ?_
  rw [show wDrop [(aP, [7])] (0) (1) (5) = false by decide, show wErr [(aP, [7])] (0) (1) (5) = 1700 by decide, show wSt [(aP, [7])] (0) (1) (5) = [(aP, [7])] from rfl]
  rintro e w11 ⟨rfl, hp, hk⟩
  have HP11 := Lib.hid hp
  have HB11 := Lib.hid (HB10.out.trans (between_below hk HB10.out.size HLO.out))
  have HG11 := Lib.hid (show IntRow w11 base gv [6] from Keeps.own HG10.out hk (fun g hg hf => by have := (HG10.out.lt g hg).1; have := HBA.out; have := hf.2; omega))
  clear hp hk
  go_wp2_with (first | (go_at_call 11; refine (num_any _ _).mono ?_; rintro e w' ⟨rfl, hw⟩; subst w') | fail)
  refine (ports_outs pb lo hi [(aP, [7])] 0 _ HP11.out (by decide)).mono ?_
  rw [show outsS [(aP, [7])] 0 = 1 by decide +kernel]
  rintro e v1 ⟨rfl, hb1⟩
  go_wp2_with (first | (go_at_call 11; refine (num_any _ _).mono ?_; rintro e w' ⟨rfl, hw⟩; subst w') | fail)
  refine (ports_outs pb lo hi [(aP, [7])] 1 _ (HP11.out.keep hb1) (by decide)).mono ?_
  rw [show outsS [(aP, [7])] 1 = 0 by decide +kernel]
  rintro e v2 ⟨rfl, hb2⟩
  have hb12 := bthen hb1 hb2
  obtain ⟨v3, hw_v3⟩ : ∃ v3, v3 = v2.alloc (.cells #[.int .i64 6] 3) := ⟨_, rfl⟩
  obtain ⟨g3, hg_g3⟩ : ∃ g3, g3 = v2.heap.size := ⟨_, rfl⟩
  have hb_v3 : Below v2.heap.size v2 v3 := by rw [hw_v3]; exact balloc _ _
  have hk_g3 : v3.heap[g3]? = some (.cells #[.int .i64 6] 3 (0, 0)) := by rw [hw_v3, hg_g3]; exact blk_new _ _
  have hs_v3 : v3.heap.size = v2.heap.size + 1 := by rw [hw_v3]; simp
  have hb13 := bthen hb12 hb_v3
  have hs := slice1 (P := IntAt) (k := 1) (B := 8) (x := (6 : Int)) (by decide) (BlockIs.of hk_g3 0 _ rfl)
  have HS3 := Lib.hid hs
  have HP := Lib.hid (HP11.out.keep hb13)
  have HB := Lib.hid (bthen HB11.out hb13)
  have HG := Lib.hid (IntRow.ints (show IntRow v3 base gv [6] from Below.kept HG11.out hb13) (by decide))
  clear hb1 hb2 hb12 hb13 hb_v3 hs_v3 hk_g3 hs
  go_wp2_with (first | (go_at_call 11; refine (num_any _ _).mono ?_; rintro e w' ⟨rfl, hw⟩; subst w') | fail)
  rw [← hw_v3, ← hg_g3]
  clear hw_v3 hg_g3
  refine (sameInts_any _ _ [6] _ HG.out HS3.out).mono ?_
  rintro e v4 ⟨rfl, hb4⟩
  go_wp2_with (first | (go_at_call 11; refine (num_any _ _).mono ?_; rintro e w' ⟨rfl, hw⟩; subst w') | fail)
  refine (ports_gets pb lo hi [(aP, [7])] 0 _ (HP.out.keep hb4) (by decide)).mono ?_
  rw [show getsS [(aP, [7])] 0 = [-1] by decide]
  rintro e v5 ⟨gw, rfl, hg, hb5⟩
  obtain ⟨v6, hw_v6⟩ : ∃ v6, v6 = v5.alloc (.cells #[.int .i64 (-1)] 3) := ⟨_, rfl⟩
  obtain ⟨g6, hg_g6⟩ : ∃ g6, g6 = v5.heap.size := ⟨_, rfl⟩
  have hb_v6 : Below v5.heap.size v5 v6 := by rw [hw_v6]; exact balloc _ _
  have hk_g6 : v6.heap[g6]? = some (.cells #[.int .i64 (-1)] 3 (0, 0)) := by rw [hw_v6, hg_g6]; exact blk_new _ _
  have hs_v6 : v6.heap.size = v5.heap.size + 1 := by rw [hw_v6]; simp
  have HG6 := Lib.hid (IntRow.ints (show IntRow v6 _ gw [-1] from Below.kept hg hb_v6) (by decide))
  have HS6 := Lib.hid (slice1 (P := IntAt) (k := 1) (B := 8) (x := (-1 : Int)) (by decide) (BlockIs.of hk_g6 0 _ rfl))
  have HB6 := Lib.hid (bthen HB.out (bthen hb4 (bthen hb5 hb_v6)))
  clear hb4 hb5 hb_v6 hs_v6 hk_g6 hg
  go_wp2_with fail
  rw [← hw_v6, ← hg_g6]
  clear hw_v6 hg_g6
  refine (sameInts_any _ _ [-1] _ HG6.out HS6.out).mono ?_
  rintro e v7 ⟨rfl, hb7⟩
  have HB7 := Lib.hid (bthen HB6.out hb7)
  clear hb7
  go_wp2_with fail
  go_ret
  exact ⟨rfl, HB7.out⟩
end Go.Proofs.Ytkjjfidbmkpljaa
