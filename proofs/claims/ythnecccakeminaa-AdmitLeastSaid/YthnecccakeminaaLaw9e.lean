/- The law AdmitLeast: at the response there is enough, and at no lesser length. -/
import Derived.Test.YthnecccakeminaaLaw9a
set_option linter.unusedVariables false
set_option linter.unusedSimpArgs false
namespace Go.Proofs.Ythnecccakeminaa
open Go.RowKit

theorem respGo_spec (c : Config) (p : Int) (ts : List Task) (i : Nat) : ∀ m l, (∃ r : Nat, respGo c p ts i l m = ((r : Int), 0) ∧ l ≤ r ∧ r < l + m ∧ boundOf ts i r ≤ (leastSpec c p r).1 ∧ ∀ k : Nat, l ≤ k → k < r → ¬ boundOf ts i k ≤ (leastSpec c p k).1) ∨ (respGo c p ts i l m = (0, 901) ∧ ∀ k : Nat, l ≤ k → k < l + m → ¬ boundOf ts i k ≤ (leastSpec c p k).1) := by
  intro m
  induction m with
  | zero => intro l; exact .inr ⟨rfl, fun k h1 h2 => by omega⟩
  | succ m ih =>
    intro l
    unfold respGo
    by_cases h : boundOf ts i l ≤ (leastSpec c p l).1
    · rw [if_pos h]
      exact .inl ⟨l, rfl, by omega, by omega, h, fun k h1 h2 => by omega⟩
    · rw [if_neg h]
      rcases ih (l + 1) with ⟨r, e, h1, h2, h3, h4⟩ | ⟨e, h4⟩
      · refine .inl ⟨r, e, by omega, by omega, h3, fun k k1 k2 => ?_⟩
        by_cases hk : k = l
        · rw [hk]; exact h
        · exact h4 k (by omega) k2
      · refine .inr ⟨e, fun k k1 k2 => ?_⟩
        by_cases hk : k = l
        · rw [hk]; exact h
        · exact h4 k (by omega) (by omega)

set_option maxRecDepth 100000 in
set_option maxHeartbeats 3000000 in
theorem admitLeast_any (c : Config) (v : Value) (p i : Int) (w : World) (hc : CfgV w v c) :
    Calls Try.prog 4 #[v, .int .i64 p, .int .i64 i] w fun e w' => e = .returned (.bool true) ∧ Below w.heap.size w w' := by
  obtain ⟨pv, wv, ov, rfl, hcfg⟩ := hc
  have HC := Lib.hid hcfg
  obtain ⟨pa, pcap, rfl, hp1, hp2, hp3, hp4⟩ := hcfg.parts
  have HP := Lib.hid hp4
  have HB0 := Lib.hid (balloc w (.cells #[.int .i64 c.frame, .int .i64 c.quiet, .slice pa c.parts.length pcap, wv, ov] 26))
  have HX0 := Lib.hid (cfg_box w c _ _ _ 26 hcfg)
  obtain ⟨g, hg⟩ : ∃ g, g = w.heap.size := ⟨_, rfl⟩
  rw [← hg] at HX0
  clear hp4 hcfg
  go_enter Try.func4, Try.ntmps4
  go_wp2_with (first | (rw [← hg]; clear hg) | fail)
  refine (awake9_any _).mono ?_
  rintro e w1 ⟨rfl, hb1⟩
  have HB1 := Lib.hid (bthen HB0.out hb1)
  have HX1 := Lib.hid (HX0.out.ext (Ext.below hb1))
  clear hb1 HB0 HX0
  have z0 := HX1.out.c0; have z1 := HX1.out.c1; have z2 := HX1.out.c2; have z3 := HX1.out.c3; have z4 := HX1.out.c4; unfold IntAt at z0 z1
  go_wp2_with fail
  refine (response_any c _ p i _ ⟨_, _, _, rfl, HX1.out.is⟩).mono ?_
  rintro e w2 ⟨rfl, hb2⟩
  have HB2 := Lib.hid (bthen HB1.out hb2)
  have HX2 := Lib.hid (HX1.out.ext (Ext.below hb2))
  clear hb2 HB1 HX1
  clear z0 z1 z2 z3 z4
  have z0 := HX2.out.c0; have z1 := HX2.out.c1; have z2 := HX2.out.c2; have z3 := HX2.out.c3; have z4 := HX2.out.c4; unfold IntAt at z0 z1
  by_cases hbad : checkCfg c ≠ 0 ∨ levelOf c.parts p ≠ 1 ∨ i < 0 ∨ i ≥ (tasksOf c p).length
  · rw [respSpec_bad hbad]
    clear hbad
    go_wp2_with (first | (go_at_call 13; refine (num_any _ _).mono ?_; rintro e w' ⟨rfl, hw⟩; subst w') | fail)
    go_ret
    exact ⟨rfl, HB2.out⟩
  · have hk : checkCfg c = 0 := by omega
    have hlv : levelOf c.parts p = 1 := by omega
    have hpp : 0 ≤ p ∧ p < c.parts.length := by
      unfold levelOf at hlv
      split at hlv
      · omega
      · omega
    obtain ⟨P, rfl⟩ := Int.eq_ofNat_of_zero_le hpp.1
    have hP : P < c.parts.length := by omega
    obtain ⟨I, rfl⟩ := Int.eq_ofNat_of_zero_le (show 0 ≤ i by omega)
    obtain ⟨b, off, rfl, hcell⟩ := HP.out (by intro h; rw [h] at hP; simp at hP)
    obtain ⟨y0, tv, cv, y1, y2, hpi⟩ := PartAt.ext (Ext.below HB2.out) (hcell P hP)
    rw [levelOf_at c P hP] at hlv
    have hI : I < c.parts[P].tasks.length := by rw [tasksOf_at c P hP] at hbad; omega
    have hrs := respSpec_in hk hP hlv hI
    obtain ⟨ts, hts⟩ : ∃ ts, ts = c.parts[P].tasks := ⟨_, rfl⟩
    have hT := hpi.tasks
    rw [← hts] at hT hI
    have HT := Lib.hid hT
    obtain ⟨ta, tc, rfl, t2, t3, t4, t5⟩ := hT
    obtain ⟨hok, h6⟩ := tasks_ok (check_tasks hk _ (List.getElem_mem hP))
    rw [← hts] at hok h6
    obtain ⟨tb, toff, rfl, tcell⟩ := t5 (by intro h; rw [h] at hI; simp at hI)
    have hm := may_cases ts[I] (tasksOk_all ts hok _ (List.getElem_mem hI))
    obtain ⟨D, hD⟩ := Int.eq_ofNat_of_zero_le (show 0 ≤ ts[I].deadline by omega)
    have hD1 : 1 ≤ D := by omega
    have hD2 : D ≤ 1024 := by omega
    have q2 := (tcell I hI).2.2.1
    unfold IntAt at q2
    rw [hD] at q2
    rw [respIn_at c P I ts D hP hts.symm hI hD] at hrs
    have HQ := Lib.hid q2
    have HOK := Lib.hid hok
    have HK := Lib.hid hk
    have d2 : decide (c.parts.length ≤ P) = false := decide_eq_false (by omega)
    have d4 : decide (ts.length ≤ I) = false := decide_eq_false (by omega)
    rw [hrs]
    clear hbad hpp hk hts hok tcell hm hD hlv hrs hcell hpi y0 y2 t5
    rcases respGo_spec c P ts I D 1 with ⟨r, e, h1, h2, h3, h4⟩ | ⟨e, h4⟩
    · rw [e]
      have H := Lib.hid (And.intro h3 h4)
      have d5 : ((r : Int) == 0) = false := by simp; omega
      clear e h3 h4
      go_wp2_with (first | (go_at_call 13; refine (num_any _ _).mono ?_; rintro e w' ⟨rfl, hw⟩; subst w') | fail)
      clear z0 z1 z2 z3 z4 q2 y1
      go_loopw [11] (fun j wr => ∃ k : Nat, 1 ≤ k ∧ k ≤ r + 1 ∧ j = .int .i64 k ∧ Below w2.heap.size w2 wr) (fun j _ => r + 1 - (intOf j).toNat)
      case atStart => exact ⟨1, by omega, by omega, rfl, Below.refl _ _⟩
      case round =>
        obtain ⟨k, hk1, hk2, rfl, hB⟩ := hrel
        have HBk := Lib.hid hB
        have HXk := Lib.hid (HX2.out.ext (Ext.below hB))
        have q2 := Ext.below hB _ _ HQ.out
        clear hB
        by_cases hlt : k ≤ r
        · have z0 := HXk.out.c0; have z1 := HXk.out.c1; have z2 := HXk.out.c2; have z3 := HXk.out.c3; have z4 := HXk.out.c4; unfold IntAt at z0 z1
          have c1 : (k : Int) ≤ 1024 := by omega
          go_wp2_with fail
          refine (refLeastS_any c _ P k _ ⟨_, _, _, rfl, HXk.out.is⟩).mono ?_
          rintro e w3 ⟨rfl, hb3⟩
          have HB3 := Lib.hid (bthen HBk.out hb3)
          have hls : (leastSpec c P k).2 = 0 := by unfold leastSpec; rw [if_neg (by have := HK.out; omega)]
          rw [hls]
          clear hb3 z0 z1 z2 z3 z4 q2 HXk HBk hls
          go_wp2_with fail
          refine (refBoundS_any _ ts I k _ (HT.out.ext (Ext.below HB3.out)) HOK.out h6 hI (by omega) (by omega)).mono ?_
          rintro e w4 ⟨rfl, hb4⟩
          have HB4 := Lib.hid (bthen HB3.out hb4)
          clear hb4 HB3
          by_cases he : k = r
          · subst he
            have e3 : decide ((leastSpec c P k).1 ≥ boundOf ts I k) = true := decide_eq_true H.out.1
            have e5 : decide (boundOf ts I k ≤ (leastSpec c P k).1) = true := decide_eq_true H.out.1
            go_wp2_with (first | (go_at_call 13; refine (num_any _ _).mono ?_; rintro e w' ⟨rfl, hw⟩; subst w') | fail)
            go_roundw
            case rel => exact ⟨k + 1, by omega, by omega, by go_num, HB4.out⟩
            case measure => (simp [intOf]; try omega)
          · have hn := H.out.2 k hk1 (by omega)
            have e3 : decide ((leastSpec c P k).1 ≥ boundOf ts I k) = false := decide_eq_false (by omega)
            have e5 : decide (boundOf ts I k ≤ (leastSpec c P k).1) = false := decide_eq_false (by omega)
            have e4 : ((k : Int) == (r : Int)) = false := by simp; omega
            have e6 : (k == r) = false := by simp; omega
            clear hn
            go_wp2_with (first | (go_at_call 13; refine (num_any _ _).mono ?_; rintro e w' ⟨rfl, hw⟩; subst w') | fail)
            go_roundw
            case rel => exact ⟨k + 1, by omega, by omega, by go_num, HB4.out⟩
            case measure => (simp [intOf]; try omega)
        · obtain rfl : k = r + 1 := by omega
          go_wp2_with (first | (go_at_call 13; refine (num_any _ _).mono ?_; rintro e w' ⟨rfl, hw⟩; subst w') | fail)
          go_ret
          exact ⟨rfl, bthen HB2.out HBk.out⟩
    · rw [e]
      have H := Lib.hid h4
      clear e h4
      go_wp2_with (first | (go_at_call 13; refine (num_any _ _).mono ?_; rintro e w' ⟨rfl, hw⟩; subst w') | fail)
      clear z0 z1 z2 z3 z4 q2 y1
      go_loopw [11] (fun j wr => ∃ k : Nat, 1 ≤ k ∧ k ≤ D + 1 ∧ j = .int .i64 k ∧ Below w2.heap.size w2 wr) (fun j _ => D + 1 - (intOf j).toNat)
      case atStart => exact ⟨1, by omega, by omega, rfl, Below.refl _ _⟩
      case round =>
        obtain ⟨k, hk1, hk2, rfl, hB⟩ := hrel
        have HBk := Lib.hid hB
        have HXk := Lib.hid (HX2.out.ext (Ext.below hB))
        have q2 := Ext.below hB _ _ HQ.out
        clear hB
        by_cases hlt : k ≤ D
        · have z0 := HXk.out.c0; have z1 := HXk.out.c1; have z2 := HXk.out.c2; have z3 := HXk.out.c3; have z4 := HXk.out.c4; unfold IntAt at z0 z1
          have c1 : (k : Int) ≤ 1024 := by omega
          go_wp2_with fail
          refine (refLeastS_any c _ P k _ ⟨_, _, _, rfl, HXk.out.is⟩).mono ?_
          rintro e w3 ⟨rfl, hb3⟩
          have HB3 := Lib.hid (bthen HBk.out hb3)
          have hls : (leastSpec c P k).2 = 0 := by unfold leastSpec; rw [if_neg (by have := HK.out; omega)]
          rw [hls]
          clear hb3 z0 z1 z2 z3 z4 q2 HXk HBk hls
          go_wp2_with fail
          refine (refBoundS_any _ ts I k _ (HT.out.ext (Ext.below HB3.out)) HOK.out h6 hI (by omega) (by omega)).mono ?_
          rintro e w4 ⟨rfl, hb4⟩
          have HB4 := Lib.hid (bthen HB3.out hb4)
          have hn := H.out k hk1 (by omega)
          have e3 : decide ((leastSpec c P k).1 ≥ boundOf ts I k) = false := decide_eq_false (by omega)
          have e5 : decide (boundOf ts I k ≤ (leastSpec c P k).1) = false := decide_eq_false (by omega)
          clear hb4 HB3 hn
          go_wp2_with (first | (go_at_call 13; refine (num_any _ _).mono ?_; rintro e w' ⟨rfl, hw⟩; subst w') | fail)
          go_roundw
          case rel => exact ⟨k + 1, by omega, by omega, by go_num, HB4.out⟩
          case measure => (simp [intOf]; try omega)
        · obtain rfl : k = D + 1 := by omega
          go_wp2_with (first | (go_at_call 13; refine (num_any _ _).mono ?_; rintro e w' ⟨rfl, hw⟩; subst w') | fail)
          go_ret
          exact ⟨rfl, bthen HB2.out HBk.out⟩
end Go.Proofs.Ythnecccakeminaa
