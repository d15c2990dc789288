/- The law FrameHyper: all periods and the frame divide the hyperperiod, and it divides what they all divide. -/
import Derived.Test.YtgpefejghhgnmaaLaw6a
set_option linter.unusedVariables false
set_option linter.unusedSimpArgs false
namespace Go.Proofs.Ytgpefejghhgnmaa
open Go.RowKit

theorem lcmO_spec {x y z : Nat} (h : lcmO x y = some z) : x ∣ z ∧ y ∣ z ∧ ∀ M, x ∣ M → y ∣ M → z ∣ M := by
  unfold lcmO at h
  split at h
  · injection h with h
    have e : z = Nat.lcm x y := by
      rw [← h]
      unfold Nat.lcm
      rw [Nat.mul_comm x y, Nat.mul_div_assoc _ (Nat.gcd_dvd_left x y), Nat.mul_comm]
    rw [e]
    exact ⟨Nat.dvd_lcm_left x y, Nat.dvd_lcm_right x y, fun M h1 h2 => Nat.lcm_dvd h1 h2⟩
  · simp at h
theorem hyT_spec (ts : List Task) : ∀ (a x : Nat), hyT a ts = some x → a ∣ x ∧ (∀ t ∈ ts, t.period.toNat ∣ x) ∧ ∀ M, a ∣ M → (∀ t ∈ ts, t.period.toNat ∣ M) → x ∣ M := by
  induction ts with
  | nil =>
    intro a x h
    simp only [hyT, Option.some.injEq] at h
    subst h
    exact ⟨Nat.dvd_refl _, by simp, fun M h _ => h⟩
  | cons t r ih =>
    intro a x h
    simp only [hyT, Option.bind_eq_some_iff] at h
    obtain ⟨y, h1, h2⟩ := h
    obtain ⟨a1, a2, a3⟩ := lcmO_spec h1
    obtain ⟨b1, b2, b3⟩ := ih y x h2
    refine ⟨Nat.dvd_trans a1 b1, fun s hs => ?_, fun M hm ht => b3 M (a3 M hm (ht t (by simp))) (fun s hs => ht s (by simp [hs]))⟩
    rcases List.mem_cons.1 hs with rfl | hs
    · exact Nat.dvd_trans a2 b1
    · exact b2 s hs
theorem hyP_spec (ps : List Part) : ∀ (a x : Nat), hyP a ps = some x → a ∣ x ∧ (∀ p ∈ ps, ∀ t ∈ p.tasks, t.period.toNat ∣ x) ∧ ∀ M, a ∣ M → (∀ p ∈ ps, ∀ t ∈ p.tasks, t.period.toNat ∣ M) → x ∣ M := by
  induction ps with
  | nil =>
    intro a x h
    simp only [hyP, Option.some.injEq] at h
    subst h
    exact ⟨Nat.dvd_refl _, by simp, fun M h _ => h⟩
  | cons p r ih =>
    intro a x h
    simp only [hyP, Option.bind_eq_some_iff] at h
    obtain ⟨y, h1, h2⟩ := h
    obtain ⟨a1, a2, a3⟩ := hyT_spec p.tasks a y h1
    obtain ⟨b1, b2, b3⟩ := ih y x h2
    refine ⟨Nat.dvd_trans a1 b1, fun s hs => ?_, fun M hm ht => b3 M (a3 M hm (ht p (by simp))) (fun s hs => ht s (by simp [hs]))⟩
    rcases List.mem_cons.1 hs with rfl | hs
    · exact fun t ht => Nat.dvd_trans (a2 t ht) b1
    · exact b2 s hs
theorem hyT_pos (ts : List Task) : ∀ (a x : Nat), 0 < a → (∀ t ∈ ts, 1 ≤ t.period) → hyT a ts = some x → 0 < x := by
  induction ts with
  | nil => intro a x h0 _ h; simp only [hyT, Option.some.injEq] at h; omega
  | cons t r ih =>
    intro a x h0 hp h
    simp only [hyT, Option.bind_eq_some_iff] at h
    obtain ⟨y, h1, h2⟩ := h
    exact ih y x (lcmO_pos h0 (by have := hp t (by simp); omega) h1).1 (fun s hs => hp s (by simp [hs])) h2
theorem lcmO_lt {x y z : Nat} (h : lcmO x y = some z) : z < 18446744073709551616 := by
  unfold lcmO two64 at h
  split at h
  · injection h with h; omega
  · simp at h
theorem hyT_lt (ts : List Task) : ∀ (a x : Nat), a < 18446744073709551616 → hyT a ts = some x → x < 18446744073709551616 := by
  induction ts with
  | nil => intro a x h0 h; simp only [hyT, Option.some.injEq] at h; omega
  | cons t r ih =>
    intro a x h0 h
    simp only [hyT, Option.bind_eq_some_iff] at h
    obtain ⟨y, h1, h2⟩ := h
    exact ih y x (lcmO_lt h1) h2
theorem hyP_pos (ps : List Part) : ∀ (a x : Nat), 0 < a → a < 18446744073709551616 → (∀ p ∈ ps, ∀ t ∈ p.tasks, 1 ≤ t.period) → hyP a ps = some x → 0 < x ∧ x < 18446744073709551616 := by
  induction ps with
  | nil => intro a x h0 _ _ h; simp only [hyP, Option.some.injEq] at h; omega
  | cons p r ih =>
    intro a x h0 h01 hp h
    simp only [hyP, Option.bind_eq_some_iff] at h
    obtain ⟨y, h1, h2⟩ := h
    exact ih y x (hyT_pos _ _ _ h0 (hp p (by simp)) h1) (hyT_lt _ _ _ h01 h1) (fun s hs => hp s (by simp [hs])) h2
/-- The lesser one that d leaves is not divided by all. -/
theorem hyper_least {F x d : Nat} {ps : List Part} (h : hyP F ps = some x) (hx : 0 < x) (hd : 2 ≤ d) (hdx : d ∣ x) (h1 : F ∣ x / d) (h2 : ∀ p ∈ ps, ∀ t ∈ p.tasks, t.period.toNat ∣ x / d) : False := by
  have h3 := (hyP_spec ps F x h).2.2 (x / d) h1 h2
  have h4 : 0 < x / d := Nat.div_pos (Nat.le_of_dvd hx hdx) (by omega)
  have h5 := Nat.le_of_dvd h4 h3
  have h6 : x / d < x := Nat.div_lt_self hx (by omega)
  omega

set_option maxRecDepth 100000 in
set_option maxHeartbeats 3000000 in
theorem frameHyper_any (c : Config) (v : Value) (w : World) (hc : CfgV w v c) :
    Calls Try.prog 5 #[v] w fun e w' => e = .returned (.bool true) ∧ Below w.heap.size w w' := by
  obtain ⟨pv, wv, ov, rfl, hcfg⟩ := hc
  obtain ⟨pa, pk, wa, wk, oa, ok, rfl, rfl, rfl⟩ := hcfg.shape
  have HB0 := Lib.hid (balloc w (.cells #[.int .i64 c.frame, .int .i64 c.quiet, .slice pa c.parts.length pk, .slice wa c.windows.length wk, .slice oa c.ports.length ok] 26))
  have HC0 := Lib.hid (cfg_box w c _ _ _ 26 hcfg)
  obtain ⟨g, hg⟩ : ∃ g, g = w.heap.size := ⟨_, rfl⟩
  rw [← hg] at HC0
  have HG := Lib.hid hg
  clear hcfg hg
  go_enter Try.func5, Try.ntmps5
  go_wp2_with fail
  rw [← HG.out]
  refine (awake6_any _).mono ?_
  rintro e w1 ⟨rfl, hb1⟩
  have HB1 := Lib.hid (bthen HB0.out hb1)
  have HC1 := Lib.hid (HC0.out.ext (Ext.below hb1))
  clear hb1 HB0 HC0
  have z0 := HC1.out.c0; have z1 := HC1.out.c1; have z2 := HC1.out.c2; have z3 := HC1.out.c3; have z4 := HC1.out.c4; unfold IntAt at z0 z1
  go_wp2_with fail
  refine (hyper_any c _ _ ⟨_, _, _, rfl, HC1.out.is⟩).mono ?_
  rintro e w2 ⟨rfl, hb2⟩
  have HB2 := Lib.hid (bthen HB1.out hb2)
  have HC2 := Lib.hid (HC1.out.ext (Ext.below hb2))
  clear hb2 HB1 HC1
  clear z0 z1 z2 z3 z4
  by_cases hk : checkCfg c = 0
  · have ho := check_ok hk
    obtain ⟨F, hF⟩ := Int.eq_ofNat_of_zero_le (show 0 ≤ c.frame by omega)
    have f1 : 1 ≤ F := by omega
    have f2 : F ≤ 256 := by omega
    have lp : c.parts.length ≤ 8 := ho.2.2.2.2.2.1
    have htk := check_tasks hk
    have hper : ∀ p ∈ c.parts, ∀ t ∈ p.tasks, 1 ≤ t.period ∧ t.period ≤ 1024 := by
      intro p hp t ht
      have := (htk p hp).2 t ht
      unfold taskMay at this
      rw [decide_eq_true_eq] at this
      omega
    have S0 : hyperSpec c = match hyP F c.parts with | some x => ((x : Int), 0) | none => (0, 100) := by unfold hyperSpec; rw [if_neg (by omega), hF]; rfl
    rw [S0]
    cases hx : hyP F c.parts with
    | none =>
      clear hx S0 hper htk ho hk hF
      go_wp2_with (first | (go_at_call 15; refine (num_any _ _).mono ?_; rintro e w' ⟨rfl, hw⟩; subst w') | fail)
      go_ret
      exact ⟨rfl, HB2.out⟩
    | some x =>
      obtain ⟨x1, x2⟩ := hyP_pos _ _ _ f1 (by omega) (fun p hp t ht => (hper p hp t ht).1) hx
      obtain ⟨d1, d2, -⟩ := hyP_spec _ _ _ hx
      have HPE := Lib.hid hper
      have HTL := Lib.hid (fun p hp => (htk p hp).1)
      have HX := Lib.hid hx
      have HD := Lib.hid d2
      have ex0 : ((x : Int) == 0) = false := by simp; omega
      have em0 : (x : Int).tmod (F : Int) = 0 := by rw [Int.tmod_eq_emod_of_nonneg (by omega)]; exact_mod_cast Nat.mod_eq_zero_of_dvd d1
      have em1 : (x : Int) % (F : Int) = 0 := by exact_mod_cast Nat.mod_eq_zero_of_dvd d1
      have ew : IntKind.u64.wrap (F : Int) = (F : Int) := wrapN F (by omega)
      have en0 : F ≠ 0 := by omega
      have en1 : ((F : Int) == 0) = false := by simp; omega
      have z0 := HC2.out.c0
      have z2 := HC2.out.c2
      unfold IntAt at z0
      rw [hF] at z0
      have HFF := Lib.hid hF
      clear hx S0 hper htk ho hk hF d2 d1
      go_wp2_with (first | (go_at_call 15; refine (num_any _ _).mono ?_; rintro e w' ⟨rfl, hw⟩; subst w') | fail)
      clear em0 em1
      go_loop [5, 6, 7] (fun i _ _ => ∃ k : Nat, k ≤ c.parts.length ∧ i = .int .i64 k) (fun i _ _ => c.parts.length - (intOf i).toNat)
      case atStart => exact ⟨0, by omega, rfl⟩
      case round =>
        obtain ⟨k, hk, rfl⟩ := hrel
        by_cases hlt : k < c.parts.length
        · obtain ⟨_, _, hpe, pl1, pl2, pl3, pcell⟩ := HC2.out.is.parts
          injection hpe with hpe1 hpe2 hpe3
          subst hpe1; subst hpe3
          obtain ⟨b, off, rfl, hcell⟩ := pcell (by intro h; rw [h] at hlt; simp at hlt)
          obtain ⟨y0, tv, cv, y1, y2, hpi⟩ := hcell k hlt
          obtain ⟨ta, tcap, rfl, t1, t2, t3, tcell⟩ := hpi.tasks
          have HT := Lib.hid tcell
          have htl := HTL.out _ (List.getElem_mem hlt)
          have HPk := Lib.hid (fun t ht => And.intro (HPE.out _ (List.getElem_mem hlt) t ht) (HD.out _ (List.getElem_mem hlt) t ht))
          clear pcell hcell hpi tcell y0
          go_wp2_with fail
          go_loop [6, 7] (fun i _ => ∃ m : Nat, m ≤ c.parts[k].tasks.length ∧ i = .int .i64 m) (fun i _ => c.parts[k].tasks.length - (intOf i).toNat)
          case atStart => exact ⟨0, by omega, rfl⟩
          case round =>
            obtain ⟨m, hm, rfl⟩ := hrel
            by_cases hml : m < c.parts[k].tasks.length
            · obtain ⟨tb, toff, rfl, htc⟩ := HT.out (by intro h; rw [h] at hml; simp at hml)
              obtain ⟨-, q1, -⟩ := htc m hml
              unfold IntAt at q1
              have hpk := HPk.out _ (List.getElem_mem hml)
              obtain ⟨D, hD⟩ := Int.eq_ofNat_of_zero_le (show 0 ≤ c.parts[k].tasks[m].period by omega)
              rw [hD] at q1
              have d1 : 1 ≤ D := by omega
              have d2 : D ≤ 1024 := by omega
              have d3 : D ∣ x := by have := hpk.2; rw [hD] at this; exact this
              have em0 : (x : Int).tmod (D : Int) = 0 := by rw [Int.tmod_eq_emod_of_nonneg (by omega)]; exact_mod_cast Nat.mod_eq_zero_of_dvd d3
              have em1 : (x : Int) % (D : Int) = 0 := by exact_mod_cast Nat.mod_eq_zero_of_dvd d3
              have ewd : IntKind.u64.wrap (D : Int) = (D : Int) := wrapN D (by omega)
              have end0 : D ≠ 0 := by omega
              have end1 : ((D : Int) == 0) = false := by simp; omega
              clear htc hpk hD d3
              go_wp2_with fail
              go_round
              case rel => exact ⟨m + 1, by omega, by go_num⟩
              case measure => simp [intOf]; omega
            · go_wp2_with fail
              go_round
              case rel => exact ⟨k + 1, by omega, by go_num⟩
              case measure => simp [intOf]; omega
        · go_wp2_with fail
          clear z0 z2
          go_loopw [8, 9, 10, 11] (fun i _ _ _ wr => ∃ d : Nat, 2 ≤ d ∧ d ≤ 40 ∧ i = .int .u64 d ∧ Hid (Ext w2 wr) ∧ Below w.heap.size w wr) (fun i _ _ _ _ => 40 - (intOf i).toNat)
          case atStart => exact ⟨2, by omega, by omega, rfl, Lib.hid (Ext.refl _), HB2.out⟩
          case round =>
            obtain ⟨d, hd1, hd2, rfl, HE, hB⟩ := hrel
            have HB := Lib.hid hB
            have HCr := Lib.hid (HC2.out.ext HE.out)
            have z0 := HCr.out.c0
            have z2 := HCr.out.c2
            unfold IntAt at z0
            rw [HFF.out] at z0
            clear hB
            have nd0 : d ≠ 0 := by omega
            have nd1 : ((d : Int) == 0) = false := by simp; omega
            have md0 : (x : Int).tmod (d : Int) = ((x % d : Nat) : Int) := by rw [Int.tmod_eq_emod_of_nonneg (by omega)]; rfl
            have md1 : (x : Int) % (d : Int) = ((x % d : Nat) : Int) := rfl
            have hrl : x % d < d := Nat.mod_lt _ (by omega)
            obtain ⟨r, hr⟩ : ∃ r, r = x % d := ⟨_, rfl⟩
            rw [← hr] at md0 md1 hrl
            have mw : IntKind.u64.wrap (r : Int) = (r : Int) := wrapN r (by omega)
            by_cases hdl : d < 40
            · have e40 : decide ((d : Int) < 40) = true := by simp; omega
              by_cases hr0 : r = 0
              · have hdx : d ∣ x := Nat.dvd_of_mod_eq_zero (by omega)
                subst hr0
                have HDX := Lib.hid hdx
                have qd0 : (x : Int).tdiv (d : Int) = ((x / d : Nat) : Int) := by rw [Int.tdiv_eq_ediv_of_nonneg (by omega)]; rfl
                have qd1 : (x : Int) / (d : Int) = ((x / d : Nat) : Int) := rfl
                have hql : x / d ≤ x := Nat.div_le_self _ _
                obtain ⟨Q, hQ⟩ : ∃ Q, Q = x / d := ⟨_, rfl⟩
                rw [← hQ] at qd0 qd1 hql
                have qw : IntKind.u64.wrap (Q : Int) = (Q : Int) := wrapN Q (by omega)
                have HQ := Lib.hid hQ
                have HXD := Lib.hid (hyper_least HX.out x1 hd1 hdx)
                rw [← hQ] at HXD
                have rf0 : (Q : Int).tmod (F : Int) = ((Q % F : Nat) : Int) := by rw [Int.tmod_eq_emod_of_nonneg (by omega)]; rfl
                have rf1 : (Q : Int) % (F : Int) = ((Q % F : Nat) : Int) := rfl
                have rfl' : Q % F < F := Nat.mod_lt _ (by omega)
                obtain ⟨R, hR⟩ : ∃ R, R = Q % F := ⟨_, rfl⟩
                rw [← hR] at rf0 rf1 rfl'
                have rw' : IntKind.u64.wrap (R : Int) = (R : Int) := wrapN R (by omega)
                obtain ⟨B, hBe⟩ : ∃ B, ((R : Int) == 0) = B := ⟨_, rfl⟩
                have HBD : Hid (B = true → F ∣ Q) := Lib.hid (fun h => by
                  rw [h] at hBe
                  simp at hBe
                  exact Nat.dvd_of_mod_eq_zero (by omega))
                clear hr hdx hQ hR
                go_wp2_with fail
                go_quiet (fail)
                clear rf0 rf1 rfl' rw' hBe md0 md1 mw z0 z2
                go_wp2_with fail
                obtain ⟨wo, hwo⟩ : ∃ wo : World, wo = wr.drewN nq := ⟨_, rfl⟩
                have HEo : Hid (Ext w2 wo) := Lib.hid (by rw [hwo]; exact HE.out)
                have HBo : Hid (Below w.heap.size w wo) := Lib.hid (by rw [hwo]; exact below_drewN HB.out _)
                rw [← hwo]
                clear hwo
                go_loopw [9, 10, 11] (fun a i _ wq => ∃ (b : Bool) (k : Nat), k ≤ c.parts.length ∧ i = .int .i64 k ∧ a = .bool b ∧ Hid (b = true → F ∣ Q ∧ ∀ j (hj : j < c.parts.length), j < k → ∀ t ∈ c.parts[j].tasks, t.period.toNat ∣ Q) ∧ Hid (Ext w2 wq) ∧ Below w.heap.size w wq) (fun _ i _ _ => c.parts.length - (intOf i).toNat)
                case atStart => exact ⟨B, 0, by omega, rfl, rfl, Lib.hid (fun h => ⟨HBD.out h, fun j _ h => absurd h (by omega)⟩), HEo, HBo.out⟩
                case round =>
                  obtain ⟨b, n, hn, rfl, rfl, HI, HE2, hB2⟩ := hrel
                  have HB3 := Lib.hid hB2
                  have z2 := (HC2.out.ext HE2.out).c2
                  clear hB2
                  by_cases hnl : n < c.parts.length
                  · obtain ⟨_, _, hpe, pl1, pl2, pl3, pcell⟩ := HC2.out.is.parts
                    injection hpe with hpe1 hpe2 hpe3
                    subst hpe1; subst hpe3
                    obtain ⟨pb, off, rfl, hcell⟩ := pcell (by intro h; rw [h] at hnl; simp at hnl)
                    obtain ⟨y0, tv, cv, y1, y2, hpi⟩ := PartAt.ext HE2.out (hcell n hnl)
                    obtain ⟨ta, tcap, rfl, t1, t2, t3, tcell⟩ := hpi.tasks
                    have HT := Lib.hid tcell
                    have htl := HTL.out _ (List.getElem_mem hnl)
                    have HPk := Lib.hid (HPE.out _ (List.getElem_mem hnl))
                    have HYY := Lib.hid (And.intro z2 y1)
                    clear pcell hcell hpi tcell y0 y2
                    go_wp2_with fail
                    clear z2 y1
                    obtain ⟨wp, rfl⟩ : ∃ wp : World, wp = wr := ⟨_, rfl⟩
                    go_loopw [9, 11] (fun a i wq => ∃ (b : Bool) (m : Nat), m ≤ c.parts[n].tasks.length ∧ i = .int .i64 m ∧ a = .bool b ∧ Hid (b = true → (F ∣ Q ∧ ∀ j (hj : j < c.parts.length), j < n → ∀ t ∈ c.parts[j].tasks, t.period.toNat ∣ Q) ∧ ∀ j (hj : j < c.parts[n].tasks.length), j < m → c.parts[n].tasks[j].period.toNat ∣ Q) ∧ Hid (Ext wp wq) ∧ Below w.heap.size w wq) (fun _ i _ => c.parts[n].tasks.length - (intOf i).toNat)
                    case atStart => exact ⟨b, 0, by omega, rfl, rfl, Lib.hid (fun h => ⟨HI.out h, fun j _ h => absurd h (by omega)⟩), Lib.hid (Ext.refl _), HB3.out⟩
                    case round =>
                      obtain ⟨b2, m, hm, rfl, rfl, HI2, HE3, hB3⟩ := hrel
                      have HB4 := Lib.hid hB3
                      obtain ⟨z2, y1⟩ := HYY.out
                      replace z2 := HE3.out _ _ z2
                      replace y1 := HE3.out _ _ y1
                      clear hB3
                      by_cases hml : m < c.parts[n].tasks.length
                      · obtain ⟨tb, toff, rfl, htc⟩ := HT.out (by intro h; rw [h] at hml; simp at hml)
                        obtain ⟨-, q1, -⟩ := TaskAt.ext HE3.out (htc m hml)
                        unfold IntAt at q1
                        have hpk := HPk.out _ (List.getElem_mem hml)
                        obtain ⟨D, hD⟩ := Int.eq_ofNat_of_zero_le (show 0 ≤ c.parts[n].tasks[m].period by omega)
                        rw [hD] at q1
                        have d1 : 1 ≤ D := by omega
                        have d2 : D ≤ 1024 := by omega
                        have HDD : Hid (c.parts[n].tasks[m].period.toNat = D) := Lib.hid (by rw [hD]; rfl)
                        clear htc hpk hD
                        cases b2 with
                        | false =>
                          go_wp2_with fail
                          go_quiet (fail)
                          go_wp2_with fail
                          go_roundw
                          case rel => exact ⟨false, m + 1, by omega, by go_num, rfl, Lib.hid (fun h => by simp at h), Lib.hid (HE3.out.trans (fun _ _ h => h)), below_drewN HB4.out _⟩
                          case measure => simp [intOf]; omega
                        | true =>
                          have rf0 : (Q : Int).tmod (D : Int) = ((Q % D : Nat) : Int) := by rw [Int.tmod_eq_emod_of_nonneg (by omega)]; rfl
                          have rf1 : (Q : Int) % (D : Int) = ((Q % D : Nat) : Int) := rfl
                          have rfl' : Q % D < D := Nat.mod_lt _ (by omega)
                          obtain ⟨S, hS⟩ : ∃ S, S = Q % D := ⟨_, rfl⟩
                          rw [← hS] at rf0 rf1 rfl'
                          have rw' : IntKind.u64.wrap (S : Int) = (S : Int) := wrapN S (by omega)
                          have dw' : IntKind.u64.wrap (D : Int) = (D : Int) := wrapN D (by omega)
                          have dn0 : D ≠ 0 := by omega
                          obtain ⟨B2, hB2⟩ : ∃ B2, ((S : Int) == 0) = B2 := ⟨_, rfl⟩
                          have HBD2 : Hid (B2 = true → D ∣ Q) := Lib.hid (fun h => by
                            rw [h] at hB2
                            simp at hB2
                            exact Nat.dvd_of_mod_eq_zero (by omega))
                          clear hS
                          go_wp2_with fail
                          go_quiet (fail)
                          clear rf0 rf1 rfl' rw' dw' hB2
                          go_wp2_with fail
                          go_roundw
                          case rel => exact ⟨B2, m + 1, by omega, by go_num, rfl, Lib.hid (fun h => ⟨(HI2.out trivial).1, fun j hj hjm => by
                            by_cases e : j = m
                            · subst e; rw [HDD.out]; exact HBD2.out h
                            · exact (HI2.out trivial).2 j hj (by omega)⟩), Lib.hid (HE3.out.trans (fun _ _ h => h)), below_drewN HB4.out _⟩
                          case measure => simp [intOf]; omega
                      · go_wp2_with fail
                        go_roundw
                        case rel => exact ⟨b2, n + 1, by omega, by go_num, rfl, Lib.hid (fun h => ⟨(HI2.out h).1.1, fun j hj hjn => by
                          by_cases e : j = n
                          · subst e
                            intro t ht
                            obtain ⟨i, hi, rfl⟩ := List.getElem_of_mem ht
                            exact (HI2.out h).2 i hi (by omega)
                          · exact (HI2.out h).1.2 j hj (by omega)⟩), Lib.hid (HE2.out.trans HE3.out), HB4.out⟩
                        case measure => simp [intOf]; omega
                  · cases b with
                    | true =>
                      exfalso
                      refine HXD.out (HI.out rfl).1 (fun p hp t ht => ?_)
                      obtain ⟨i, hi, rfl⟩ := List.getElem_of_mem hp
                      exact (HI.out rfl).2 i hi (by omega) t ht
                    | false =>
                      go_wp2_with fail
                      go_roundw
                      case rel => exact ⟨d + 1, by omega, by omega, by go_num, HE2, HB3.out⟩
                      case measure => simp [intOf]; omega
              · have hr1 : ((r : Int) == 0) = false := by simp; omega
                have hr2 : ((r : Int) != 0) = true := by simp; omega
                clear hr
                go_wp2_with fail
                go_roundw
                case rel => exact ⟨d + 1, by omega, by omega, by go_num, HE, HB.out⟩
                case measure => simp [intOf]; omega
            · clear md0 md1 mw hr
              go_wp2_with fail
              go_ret
              exact ⟨rfl, HB.out⟩
  · have S0 : hyperSpec c = (0, 600) := by unfold hyperSpec; rw [if_pos hk]
    rw [S0]
    clear hk S0
    go_wp2_with (first | (go_at_call 15; refine (num_any _ _).mono ?_; rintro e w' ⟨rfl, hw⟩; subst w') | fail)
    go_ret
    exact ⟨rfl, HB2.out⟩
end Go.Proofs.Ytgpefejghhgnmaa
