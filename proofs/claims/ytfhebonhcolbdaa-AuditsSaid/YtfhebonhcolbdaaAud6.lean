/- What the reference answers of an audit and of shares. -/
import Derived.Test.YtfhebonhcolbdaaAud5
set_option linter.unusedVariables false
set_option linter.unusedSimpArgs false
namespace Go.Proofs.Ytfhebonhcolbdaa
open Go.RowKit

set_option maxRecDepth 100000 in
set_option maxHeartbeats 1600000 in
theorem refShares_any (c : Config) (v : Value) (rv : Value) (rs : List Row) (w : World) (hc : CfgV w v c) (hv : RowsV w rv rs) :
    Calls Try.prog 10 #[v, rv] w fun e w' => ∃ u, e = .returned (.tuple #[u, .int .i64 (sharesErr c rs)]) ∧ IntsV w' u (sharesAns c rs) ∧ Below w.heap.size w w' := by
  obtain ⟨pv, wv, ov, rfl, hcfg⟩ := hc
  obtain ⟨pa, pk, wa, wk, oa, ok, rfl, rfl, rfl⟩ := hcfg.shape
  have HB0 := Lib.hid (balloc w (.cells #[.int .i64 c.frame, .int .i64 c.quiet, .slice pa c.parts.length pk, .slice wa c.windows.length wk, .slice oa c.ports.length ok] 26))
  have HC0 := Lib.hid (cfg_box w c _ _ _ 26 hcfg)
  have HR := Lib.hid hv
  obtain ⟨a, cap, rfl, h2, h3, h4, h5⟩ := hv
  have HV := Lib.hid h5
  have hl : rs.length ≤ 1000000000000000 := by omega
  obtain ⟨g, hg⟩ : ∃ g, g = w.heap.size := ⟨_, rfl⟩
  rw [← hg] at HC0
  have HG := Lib.hid hg
  clear hcfg hg h5
  go_enter Try.func10, Try.ntmps10
  go_wp2_with fail
  rw [← HG.out]
  refine (refRowsMay_any c _ _ rs _ ⟨_, _, _, rfl, HC0.out.is⟩ (HR.out.ext (Ext.alloc _ _))).mono ?_
  rintro e w1 ⟨rfl, hb1⟩
  have HB1 := Lib.hid (bthen HB0.out hb1)
  have HC1 := Lib.hid (HC0.out.ext (Ext.below hb1))
  clear hb1 HB0 HC0
  cases hm : rowsMay c rs with
  | false =>
    have HX : Hid (sharesErr c rs = 2400 ∧ sharesAns c rs = []) := Lib.hid ⟨by unfold sharesErr; rw [if_neg (by rw [hm]; simp)], by unfold sharesAns; rw [if_neg (by rw [hm]; simp)]⟩
    clear hm
    go_wp2_with fail
    refine bodyPost_ret (v := .tuple #[.slice none 0 0, .int .i64 2400]) (by simp [results, Try.results10, go_sem]) rfl ⟨.slice none 0 0, by rw [HX.out.1], by rw [HX.out.2]; exact slice0 _ _ _ _, HB1.out⟩
  | true =>
    have HX : Hid (sharesErr c rs = 0 ∧ sharesAns c rs = sharesOf c rs) := Lib.hid ⟨by unfold sharesErr; rw [if_pos hm], by unfold sharesAns; rw [if_pos hm]⟩
    have hmm : checkCfg c = 0 ∧ ∀ r ∈ rs, rowMay c r = true := by
      unfold rowsMay at hm
      simp only [Bool.and_eq_true, List.all_eq_true, decide_eq_true_eq] at hm
      exact ⟨hm.2, hm.1⟩
    have HM := Lib.hid hmm
    have lp : c.parts.length ≤ 8 := (check_ok hmm.1).2.2.2.2.2.1
    have lp0 : 0 < c.parts.length := (check_ok hmm.1).2.2.2.2.1
    obtain ⟨n, hn⟩ : ∃ n, n = c.parts.length := ⟨_, rfl⟩
    have z2 := HC1.out.c2
    rw [← hn] at lp lp0 z2
    obtain ⟨i0, hi0, hi1, hi2, hi3⟩ := info_parts infoInt
    have HI := Lib.hid (And.intro hi0 (And.intro hi1 (And.intro hi2 hi3)))
    have HNN := Lib.hid hn
    clear hi0 hi1 hi2 hi3 hm hmm hn
    go_wp2_with (at_make; refine wpList_make_full _ rfl (.tmp 14) (.tmp 14) 31 rfl w1.heap.size 3 i0 (.int .i64 0) 1 Try.underlying31 HI.out.1 HI.out.2.1 HI.out.2.2.1 .i64 .i64 n n n rfl rfl rfl rfl (by rw [HI.out.2.2.2]; omega) (by unfold maxLen; omega) (Nat.le_refl _) ?_)
    intro w2 hown hgrow
    have HV2 := Lib.hid (ValRow.made (base := w1.heap.size) (e := 3) (g := w1.heap.size) (n := n) (z := .int .i64 0) (by rw [Nat.mul_one]; exact hown))
    have hb2 : Below w1.heap.size w1 w2 := (Below.refl _ _).grown hgrow (Nat.le_refl _) (by simp)
    have HB2 := Lib.hid (bthen HB1.out hb2)
    have HE2 := Lib.hid (Ext.below hb2)
    obtain ⟨q, hq⟩ : ∃ q, q = w1.heap.size := ⟨_, rfl⟩
    rw [← hq] at HV2 ⊢
    have hqw : w.heap.size ≤ q := by rw [hq]; exact HB1.out.size
    have hqw1 : w1.heap.size ≤ q := by omega
    clear hown hgrow hb2 hq z2 HI
    go_wp2_with fail
    go_loopw [7] (fun i wr => ∃ k : Nat, k ≤ rs.length ∧ i = .int .i64 k ∧ Hid (ValRow wr q n (fun s => .int .i64 ((ownsN (rs.take k) (s : Int) : Nat) : Int))) ∧ Hid (Ext w1 wr) ∧ Below w.heap.size w wr) (fun i _ => rs.length - (intOf i).toNat)
    case atStart => exact ⟨0, by omega, rfl, Lib.hid (HV2.out.congr (fun s _ => by simp [ownsN])), HE2, HB2.out⟩
    case round =>
      obtain ⟨k, hk, rfl, HVk, HE, hB⟩ := hrel
      have HB := Lib.hid hB
      clear hB
      by_cases hlt : k < rs.length
      · obtain ⟨b, off, rfl, hcell⟩ := HV.out (by intro h; rw [h] at hlt; simp at hlt)
        obtain ⟨y0, y1, y2, y3, ev, y4, hev⟩ := RowAt.ext (Ext.below HB.out) (hcell k hlt)
        unfold IntAt at y0 y1 y3
        have hmr := HM.out.2 _ (List.getElem_mem hlt)
        unfold rowMay at hmr
        rw [decide_eq_true_eq] at hmr
        have hst := ownsN_take rs k hlt
        have hqr : q < wr.heap.size := HVk.out.lt
        by_cases ho : rs[k].owner = -1
        · have HST : Hid (∀ s : Nat, ownsN (rs.take (k + 1)) (s : Int) = ownsN (rs.take k) (s : Int)) := Lib.hid (fun s => by rw [hst, if_neg (by omega)]; rfl)
          rw [ho] at y1
          clear hcell hmr hst ho
          go_wp2_with fail
          go_roundw
          case rel => exact ⟨k + 1, by omega, by go_num, Lib.hid (ValRow.congr (g := fun s => .int .i64 ((ownsN (rs.take (k + 1)) (s : Int) : Nat) : Int)) HVk.out (fun s _ => by rw [HST.out])), HE, HB.out⟩
          case measure => simp [intOf]; omega
        · obtain ⟨O, hO⟩ := Int.eq_ofNat_of_zero_le (show 0 ≤ rs[k].owner by omega)
          have hOn : O < n := by rw [HNN.out]; omega
          have HST : Hid (∀ s : Nat, ownsN (rs.take (k + 1)) (s : Int) = ownsN (rs.take k) (s : Int) + if s = O then 1 else 0) := Lib.hid (fun s => by
            rw [hst, hO]
            by_cases e : s = O
            · rw [if_pos e, if_pos (by omega)]
            · rw [if_neg e, if_neg (by omega)])
          rw [hO] at y1
          have r0 := HVk.out.cell O hOn
          have r1 := HVk.out.free O
          have hle := ownsN_le (rs.take k) (O : Int)
          have hle2 : (rs.take k).length ≤ k := List.length_take_le _ _
          obtain ⟨N, hN⟩ : ∃ N, N = ownsN (rs.take k) (O : Int) := ⟨_, rfl⟩
          rw [← hN] at r0 hle
          have hNk : N ≤ k := by omega
          have HN := Lib.hid hN
          clear hcell hmr hst ho hO hN hle hle2
          go_wp2_with fail
          go_roundw
          case rel => exact ⟨k + 1, by omega, by go_num, Lib.hid (ValRow.congr (g := fun s => .int .i64 ((ownsN (rs.take (k + 1)) (s : Int) : Nat) : Int)) (HVk.out.set O _) (fun s _ => by
            by_cases e : s = O
            · subst e; rw [if_pos rfl, HST.out, if_pos rfl, ← HN.out]; simp
            · rw [if_neg e, HST.out, if_neg e]; rfl)), Lib.hid (HE.out.set_new hqw1 _ _), HB.out.setCell (p := ⟨q, O, none⟩) hqw _⟩
          case measure => simp [intOf]; omega
      · obtain rfl : k = rs.length := by omega
        rw [List.take_length] at HVk
        go_wp2_with fail
        refine bodyPost_ret (v := .tuple #[.slice (some ⟨q, 0, none⟩) n n, .int .i64 0]) (by simp [results, Try.results10, go_sem]) rfl ⟨.slice (some ⟨q, 0, none⟩) n n, by rw [HX.out.1], ?_, HB.out⟩
        rw [HX.out.2]
        unfold sharesOf
        rw [← HNN.out]
        exact HVk.out.ints (by omega)
theorem auditFrom_tick {c : Config} {t m : Int} {rs : List Row} : ∀ {k : Nat}, auditFrom c t m rs = true → ∀ h : k < rs.length, rs[k].tick = t + k := by
  intro k
  induction rs generalizing t m k with
  | nil => intro _ h; simp at h
  | cons r l ih =>
    intro ha h
    simp only [auditFrom, rowOk, Bool.and_eq_true, decide_eq_true_eq] at ha
    cases k with
    | zero => simpa using ha.1.1.1
    | succ k =>
      have := ih (k := k) ha.2 (by simpa using h)
      simp only [List.getElem_cons_succ]
      rw [this]
      omega
/-- Row by row, the tick held against the row ahead. -/
def rowOk2 (c : Config) (p : Option Int) (m : Int) (r : Row) : Bool := (match p with | none => true | some q => decide (r.tick - 1 = q)) && ownedSpec c r (wasSpec r m) && loudSpec r
def auditFrom2 (c : Config) : Option Int → Int → List Row → Bool
  | _, _, [] => true
  | p, m, r :: rs => rowOk2 c p m r && auditFrom2 c (some r.tick) r.mode rs
theorem auditFrom2_eq (c : Config) (rs : List Row) : ∀ (t m : Int), auditFrom c t m rs = auditFrom2 c (some (t - 1)) m rs := by
  induction rs with
  | nil => intros; rfl
  | cons r l ih =>
    intro t m
    unfold auditFrom auditFrom2 rowOk rowOk2
    simp only
    by_cases h : r.tick = t
    · rw [ih, h]
      have e : t + 1 - 1 = t := by omega
      rw [e]
      simp
    · rw [decide_eq_false h, decide_eq_false (show ¬ r.tick - 1 = t - 1 by omega)]
      simp
theorem auditFrom2_first (c : Config) (m : Int) (rs : List Row) : auditFrom c (tick0 rs) m rs = auditFrom2 c none m rs := by
  cases rs with
  | nil => rfl
  | cons r l =>
    unfold auditFrom auditFrom2 rowOk rowOk2 tick0
    simp only [decide_true, Bool.true_and]
    rw [auditFrom2_eq]
    have e : r.tick + 1 - 1 = r.tick := by omega
    rw [e]
theorem auditFrom2_step (c : Config) (p : Option Int) (m : Int) (rs : List Row) (k : Nat) (h : k < rs.length) :
    auditFrom2 c p m (rs.drop k) = (rowOk2 c p m rs[k] && auditFrom2 c (some rs[k].tick) rs[k].mode (rs.drop (k + 1))) := by
  rw [List.drop_eq_getElem_cons h]
  rfl
def prevTick (rs : List Row) (k : Nat) : Option Int := if k = 0 then none else (rs[k - 1]?).map (·.tick)
def anyOver (l : List Event) : Bool := l.any fun e => decide (e.kind = 4)
theorem loud_any2 (r : Row) : loudSpec r = !(anyOver r.events && decide (r.mode ≠ 1)) := by
  unfold loudSpec anyOver
  induction r.events with
  | nil => rfl
  | cons e l ih =>
    simp only [List.all_cons, List.any_cons, ih]
    cases decide (e.kind = 4) <;> cases decide (r.mode ≠ 1) <;> simp
end Go.Proofs.Ytfhebonhcolbdaa
