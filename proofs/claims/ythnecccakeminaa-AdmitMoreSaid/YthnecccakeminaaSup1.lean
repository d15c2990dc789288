/- What the functions of package supply answer. -/
import Derived.Test.YthnecccakeminaaFrm1
set_option linter.unusedVariables false
set_option linter.unusedSimpArgs false
namespace Go.Proofs.Ythnecccakeminaa
open Go.RowKit

theorem infoInt : (Try.prog.info? 3).map (fun i => (i.zero, i.size, i.bytes)) = some (some (.int .i64 0), 1, 8) := by kernel_rfl

/-- The first n + 1 sums. -/
def cnts (c : Config) (part : Int) (n : Nat) : List Int := (List.range (n + 1)).map (cnt c part)
theorem cnts_len (c : Config) (part : Int) (n : Nat) : (cnts c part n).length = n + 1 := by simp [cnts]
theorem cnts_get (c : Config) (part : Int) (n k : Nat) (h : k ≤ n) : (cnts c part n).getD k 0 = cnt c part k := by
  have : k < n + 1 := by omega
  simp [cnts, List.getD, this]
theorem cnts_snoc (c : Config) (part : Int) (n : Nat) : cnts c part (n + 1) = cnts c part n ++ [cnt c part (n + 1)] := by
  simp [cnts, List.range_succ]
theorem cnt_bd (c : Config) (part : Int) (n : Nat) : 0 ≤ cnt c part n ∧ cnt c part n ≤ n := by
  induction n with
  | zero => simp [cnt]
  | succ n ih =>
    unfold cnt
    split <;> omega

theorem ints_map (xs : List Int) : xs.map (Value.int .i64) = xs.map fun x => Value.int .i64 x := rfl

set_option maxRecDepth 100000 in
set_option maxHeartbeats 1000000 in
theorem sums_any (g : Nat) (c : Config) (part : Int) (w : World) (hc : CfgP w g c) (hk : checkCfg c = 0) :
    Calls Try.prog 45 #[.pointer (some ⟨g, 0, none⟩), .int .i64 part] w fun e w' => ∃ q cap, e = .returned (.slice (some ⟨q, 0, none⟩) (2 * c.frame.toNat + 1) cap) ∧ w.heap.size ≤ q ∧ 2 * c.frame.toNat + 1 ≤ cap ∧ cap ≤ maxLen ∧ (∀ k, k ≤ 2 * c.frame.toNat → w'.cell? ⟨q, k, none⟩ = some (.int .i64 (cnt c part k))) ∧ Below w.heap.size w w' := by
  obtain ⟨pv, wv, ov, hcc⟩ := hc
  have HC := Lib.hid hcc
  have z0 := hcc.c0
  unfold IntAt at z0
  obtain ⟨o1, o2, -⟩ := check_ok hk
  clear hk hcc
  obtain ⟨F, hF⟩ := Int.eq_ofNat_of_zero_le (show 0 ≤ c.frame by omega)
  have HF := Lib.hid hF
  rw [hF] at z0 o1 o2
  have hFt : c.frame.toNat = F := by rw [hF]; rfl
  rw [hFt]
  clear hF hFt
  have H0 := Lib.hid z0
  have hgw : g < w.heap.size := cell_lt z0
  have f1 : 1 ≤ F := by omega
  have f2 : F ≤ 256 := by omega
  clear o1 o2
  go_enter Try.func45, Try.ntmps45
  go_wp2_with fail
  go_loopw [5, 6, 7, 14] (fun v _ _ i wr => ∃ (k : Nat), k ≤ 2 * F ∧ i = .int .i64 k ∧ Hid (wr.ownsRow w.heap.size 3 1 v (k + 1) ((cnts c part k).map (Value.int .i64))) ∧ Below w.heap.size w wr) (fun _ _ _ i _ => 2 * F - (intOf i).toNat)
  case atStart => exact ⟨0, by omega, rfl, Lib.hid (World.ownsRow_lit w #[.int .i64 0] 1 (Nat.le_refl _) (by decide) rfl), balloc _ _⟩
  case round =>
    obtain ⟨k, hk, rfl, HO, hB⟩ := hrel
    have HB := Lib.hid hB
    clear hB z0
    by_cases hlt : k < 2 * F
    · obtain ⟨q, cap, rfl, hq1, hq2, hq3⟩ := ownsRow_some HO.out (by omega)
      have y0 := ownsRow_int HO.out k (by rw [cnts_len]; omega) (cnts_len _ _ _)
      rw [cnts_get _ _ _ _ (Nat.le_refl k)] at y0
      have z0 := Ext.below HB.out _ _ H0.out
      have hbd := cnt_bd c part k
      have hgr : g < wr.heap.size := cell_lt z0
      go_wp2_with fail
      refine (owner_any g wv c.windows _ _ (HC.out.ext (Ext.below HB.out)).c3 (HC.out.ext (Ext.below HB.out)).is.windows).mono ?_
      rintro e w1 ⟨rfl, hb1⟩
      have HB1 := Lib.hid (bthen HB.out hb1)
      have hk1 : cnt c part (k + 1) = cnt c part k + if ownerAt ((k : Int) % (F : Int)) c.windows = part then 1 else 0 := by
        rw [← HF.out]; rfl
      have HO1 := Lib.hid (Below.kept HO.out hb1)
      have hs1 : w.heap.size ≤ w1.heap.size := HB1.out.size
      clear z0 y0 hb1 HO HB
      by_cases he : ownerAt ((k : Int) % (F : Int)) c.windows = part
      · have e1 : (ownerAt ((k : Int) % (F : Int)) c.windows == part) = true := by simp [he]
        rw [if_pos he] at hk1
        have HK1 := Lib.hid hk1
        clear hk1 he
        go_wp2_with (at_builtin; refine append_one rfl (.tmp 33) (.tmp 35) 76 rfl w.heap.size 3 (.int .i64 0) 1 8 Try.underlying76 infoInt rfl (by decide) _ _ _ rfl HO1.out [.int .i64 (cnt c part k + 1)] rfl rfl rfl (by omega) (by decide) hs1 ?_)
        intro v' w2 hown2 hbel2 _
        have HO2 := Lib.hid hown2
        have HB2 := Lib.hid (HB1.out.trans hbel2)
        clear hown2 hbel2 HO1 HB1
        go_wp2
        go_roundw
        case rel => exact ⟨k + 1, by omega, by go_num, Lib.hid (by rw [cnts_snoc, HK1.out, List.map_append]; exact HO2.out), HB2.out⟩
        case measure => simp [intOf]; omega
      · have e1 : (ownerAt ((k : Int) % (F : Int)) c.windows == part) = false := by simp [he]
        rw [if_neg he, Int.add_zero] at hk1
        have HK1 := Lib.hid hk1
        clear hk1 he
        go_wp2_with (at_builtin; refine append_one rfl (.tmp 33) (.tmp 35) 76 rfl w.heap.size 3 (.int .i64 0) 1 8 Try.underlying76 infoInt rfl (by decide) _ _ _ rfl HO1.out [.int .i64 (cnt c part k)] rfl rfl rfl (by omega) (by decide) hs1 ?_)
        intro v' w2 hown2 hbel2 _
        have HO2 := Lib.hid hown2
        have HB2 := Lib.hid (HB1.out.trans hbel2)
        clear hown2 hbel2 HO1 HB1
        go_wp2
        go_roundw
        case rel => exact ⟨k + 1, by omega, by go_num, Lib.hid (by rw [cnts_snoc, HK1.out, List.map_append]; exact HO2.out), HB2.out⟩
        case measure => simp [intOf]; omega
    · obtain rfl : k = 2 * F := by omega
      obtain ⟨q, cap, rfl, hq1, hq2, hq3⟩ := ownsRow_some HO.out (by omega)
      go_wp2_with fail
      go_ret
      refine ⟨q, cap, rfl, hq1, hq2, hq3, fun j hj => ?_, HB.out⟩
      rw [ownsRow_int HO.out j (by rw [cnts_len]; omega) (cnts_len _ _ _), cnts_get _ _ _ _ hj]
end Go.Proofs.Ythnecccakeminaa
