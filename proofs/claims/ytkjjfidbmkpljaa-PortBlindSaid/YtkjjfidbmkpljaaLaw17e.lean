/- Chapter 17's law PortBlind (printed by gen17i.py). -/
import Derived.Test.YtkjjfidbmkpljaaLaw17d
set_option linter.unusedVariables false
set_option linter.unusedSimpArgs false
namespace Go.Proofs.Ytkjjfidbmkpljaa
open Go.RowKit

theorem PortsIs.far {W W' : World} {pb lo hi : Nat} {S : PSt} (h : PortsIs W pb lo hi S) {F : Nat → Prop} (hk : Keeps F W W') (hF : ∀ k, lo ≤ k → k < hi → ¬ F k) : PortsIs W' pb lo hi S := by
  obtain ⟨Ls, h1, h2⟩ := h
  exact ⟨Ls, h1.far hk hF, h2⟩
/-- The ports are those; whatever they hold. -/
def Of (S : PSt) (ps : List Port) : Prop := S.map (·.1) = ps
theorem Of.len {S : PSt} {ps : List Port} (h : Of S ps) : S.length = ps.length := by rw [← h, List.length_map]
theorem Of.get {S : PSt} {ps : List Port} (h : Of S ps) {k : Nat} (hk : k < ps.length) : (S.getD k p0).1 = ps[k] := by
  have hk' : k < S.length := by rw [h.len]; exact hk
  rw [List.getD_eq_getElem?_getD, List.getElem?_eq_getElem hk']
  unfold Of at h
  subst h
  simp
theorem Of.set {S : PSt} {ps : List Port} (h : Of S ps) (k : Nat) (q : List Int) : Of (S.set k ((S.getD k p0).1, q)) ps := by
  unfold Of at h ⊢
  rw [List.map_set, ← h]
  exact List.ext_getElem (by simp) (fun j h1 h2 => by
    rw [List.getElem_set]
    split
    · subst_vars
      simp only [List.length_map] at h2
      rw [List.getD_eq_getElem?_getD, List.getElem?_eq_getElem h2]
      simp
    · rfl)
theorem Of.w {S : PSt} {ps : List Port} (h : Of S ps) (part port x : Int) : Of (wSt S part port x) ps := by
  unfold wSt
  split
  · exact h.set _ _
  · exact h
theorem Of.t {S : PSt} {ps : List Port} (h : Of S ps) (part port : Int) : Of (tSt S part port) ps := by
  unfold tSt
  split
  · exact h.set _ _
  · exact h
theorem Of.werr {S : PSt} {ps : List Port} (h : Of S ps) {k : Nat} (hk : k < ps.length) (x : Int) (h0 : 0 ≤ x) (h1 : x < 65536) : wErr S ps[k].from_ (k : Int) x = 0 := by
  have hl := h.len
  have hg := h.get hk
  unfold wErr
  rw [if_neg (by omega), Int.toNat_natCast, hg]
  simp
theorem Of.terr {S : PSt} {ps : List Port} (h : Of S ps) {k : Nat} (hk : k < ps.length) : tErr S ps[k].to_ (k : Int) = 0 := by
  have hl := h.len
  have hg := h.get hk
  unfold tErr
  rw [if_neg (by omega), Int.toNat_natCast, hg]
  simp
theorem outTo_of {S T : PSt} {ps : List Port} (h : Of S ps) (h' : Of T ps) (part : Int) : ∀ k, k ≤ ps.length → outTo S part k = outTo T part k
  | 0, _ => rfl
  | k + 1, hk => by
    unfold outTo
    rw [h.get (by omega), h'.get (by omega), outTo_of h h' part k (by omega)]
theorem outs_of {S T : PSt} {ps : List Port} (h : Of S ps) (h' : Of T ps) (part : Int) : outsS S part = outsS T part := by
  unfold outsS
  rw [h.len, h'.len]
  exact outTo_of h h' part _ (Nat.le_refl _)
/-- A part that writes a port gets of no port. -/
theorem gets_of {S : PSt} {ps : List Port} (h : Of S ps) (part : Int) (hp : ∀ x ∈ ps, x.to_ ≠ part) : getsS S part = ps.map (fun _ => -1) := by
  unfold Of at h
  unfold getsS
  rw [← h, List.map_map]
  refine List.map_congr_left (fun s hs => ?_)
  unfold getP
  rw [if_neg (hp s.1 (by rw [← h]; exact List.mem_map_of_mem hs))]
  rfl
theorem from_to {c : Config} (h : checkCfg c = 0) : ∀ x ∈ c.ports, ∀ y ∈ c.ports, y.to_ ≠ x.from_ := by
  have h5 : ¬ (c.ports.length > 8 ∨ c.ports.any (fun p => !portMay c.parts p) = true) := by
    intro h5
    unfold checkCfg at h
    split at h
    · simp at h
    split at h
    · simp at h
    split at h
    · simp at h
    split at h
    · simp at h
    first
    | (simp at h; done)
    | (rw [if_pos h5] at h; simp at h)
  have hm : ∀ x ∈ c.ports, portMay c.parts x = true := by
    intro x hx
    cases hq : portMay c.parts x
    · exact absurd (.inr (List.any_eq_true.2 ⟨x, hx, by rw [hq]; rfl⟩)) h5
    · rfl
  intro x hx y hy e
  have h1 := hm x hx
  have h2 := hm y hy
  unfold portMay isPart at h1 h2
  simp only [Bool.and_eq_true, decide_eq_true_eq] at h1 h2
  have h3 := h1.1.2.2
  have h4 := h2.2.2
  rw [e, h3] at h4
  simp at h4
def BlV (pt bx k bw ow n cw i : Nat) (f z y : Int) (dr : Bool) (a : Nat) (v : Value) : Prop := match a with
  | 0 => v = .pointer (some ⟨pt, 0, none⟩)
  | 1 => v = .pointer (some ⟨bx, 1, none⟩)
  | 2 => v = .int .i64 f
  | 3 => v = .int .i64 (k : Int)
  | 4 => v = .slice (some ⟨bw, ow, none⟩) n cw
  | 5 => v = .int .i64 (i : Int)
  | 6 => v = .pointer (some ⟨bw, ow + i, none⟩)
  | 7 => v = .int .i64 z
  | 8 => v = .int .i64 y
  | 9 => v = .tuple #[.bool dr, .int .i64 0]
  | 10 => v = .tuple #[.bool dr, .int .i64 0]
  | 11 => v = .bool dr
  | 12 => v = .int .i64 0
  | 13 => v = .bool dr
  | 14 => v = .int .i64 0
  | _ => True
set_option maxRecDepth 100000 in
set_option maxHeartbeats 32000000 in
theorem portBlind_any (c : Config) (v : Value) (xs : List Int) (xv : Value) (rd : Int) (w : World) (hc : CfgV w v c) (hx : IntsV w xv xs) :
    Calls Try.prog 4 #[v, xv, .int .i64 rd] w fun e w' => e = .returned (.bool true) ∧ Below w.heap.size w w' := by
  obtain ⟨pv, wv, ov, rfl, hcfg⟩ := id hc
  obtain ⟨wa', cw, rfl, hsm, -, -, -⟩ := id hx
  have HX := Lib.hid hx
  have HPV := Lib.hid hcfg.ports
  obtain ⟨oa, oc, rfl, -, -, -, -⟩ := hcfg.ports
  clear hc hx
  go_enter Try.func4, Try.ntmps4
  obtain ⟨wa, hw_wa⟩ : ∃ wa, wa = w.alloc (.cells #[.int .i64 c.frame, .int .i64 c.quiet, pv, wv, .slice oa c.ports.length oc] 26) := ⟨_, rfl⟩
  obtain ⟨ga, hg_ga⟩ : ∃ ga, ga = w.heap.size := ⟨_, rfl⟩
  have hb_wa : Below w.heap.size w wa := by rw [hw_wa]; exact balloc _ _
  have hk_ga : wa.heap[ga]? = some (.cells #[.int .i64 c.frame, .int .i64 c.quiet, pv, wv, .slice oa c.ports.length oc] 26 (0, 0)) := by rw [hw_wa, hg_ga]; exact blk_new _ _
  have hs_wa : wa.heap.size = w.heap.size + 1 := by rw [hw_wa]; simp
  have HA := Lib.hid hk_ga
  have HBA := Lib.hid hb_wa
  have HCF := Lib.hid (hcfg.ext (Ext.below hb_wa))
  have hga : w.heap.size ≤ ga := by omega
  have HGA := Lib.hid hga
  clear hk_ga hb_wa hs_wa hcfg hga
  go_wp2_with fail
  rw [← hw_wa, ← hg_ga]
  clear hw_wa hg_ga
  refine (awake17 _).mono ?_
  rintro e w0 ⟨rfl, hb⟩
  have HB0 := Lib.hid (bthen HBA.out hb)
  have HC0 := Lib.hid (HCF.out.ext (Ext.below hb))
  have hk0 := keep_at HA.out hb
  have HA0 := Lib.hid hk0
  clear hb
  have y0 := BlockIs.of hk0 0 _ rfl
  have y1 := BlockIs.of hk0 1 _ rfl
  have y2 := BlockIs.of hk0 2 _ rfl
  have y3 := BlockIs.of hk0 3 _ rfl
  have y4 := BlockIs.of hk0 4 _ rfl
  clear hk0
  by_cases hck : checkCfg c = 0
  · have hpc := ports_of_check hck
    have hp8 := hpc.1
    have HFT := Lib.hid (from_to hck)
    go_wp2_with fail
    refine (ports_make c _ _ ⟨_, _, _, rfl, HC0.out⟩ hck).mono ?_
    rintro e w1 ⟨pb, rfl, hp, hb⟩
    have HP1 := Lib.hid hp
    have HB1 := Lib.hid (bthen HB0.out hb)
    have HC1 := Lib.hid (HC0.out.ext (Ext.below hb))
    have hk1 := keep_at HA0.out hb
    have HA1 := Lib.hid hk1
    have hlo := HB0.out.size
    clear hp hb y0 y1 y2 y3 y4
    have y0 := BlockIs.of hk1 0 _ rfl
    have y1 := BlockIs.of hk1 1 _ rfl
    have y2 := BlockIs.of hk1 2 _ rfl
    have y3 := BlockIs.of hk1 3 _ rfl
    have y4 := BlockIs.of hk1 4 _ rfl
    clear hk1
    go_wp2_with fail
    refine (ports_make c _ _ ⟨_, _, _, rfl, HC1.out⟩ hck).mono ?_
    rintro e w2 ⟨qb, rfl, hp, hb⟩
    have HQ2 := Lib.hid hp
    have HP2 := Lib.hid (HP1.out.keep hb)
    have HB2 := Lib.hid (bthen HB1.out hb)
    have HA2 := Lib.hid (keep_at HA1.out hb)
    obtain ⟨lo, hlo1⟩ : ∃ lo, lo = w0.heap.size := ⟨_, rfl⟩
    obtain ⟨hi, hhi1⟩ : ∃ hi, hi = w1.heap.size := ⟨_, rfl⟩
    obtain ⟨hi2, hhi2⟩ : ∃ hi2, hi2 = w2.heap.size := ⟨_, rfl⟩
    rw [← hlo1, ← hhi1] at HP2
    rw [← hhi1, ← hhi2] at HQ2
    obtain ⟨lo2, hlo2⟩ : ∃ lo2, lo2 = hi := ⟨_, rfl⟩
    rw [← hlo2] at HQ2
    have HL := Lib.hid (show w.heap.size ≤ lo ∧ hi ≤ lo2 ∧ w.heap.size ≤ lo2 ∧ ga < lo ∧ ga < lo2 ∧ hi ≤ hi2 by
      have := HB1.out.size
      have := hb.size
      have := lt_of_block HA0.out
      have := lt_of_block HA1.out
      omega)
    have HO := Lib.hid (show Of (c.ports.map (fun p => (p, ([] : List Int)))) c.ports by unfold Of; rw [List.map_map]; exact List.map_id' _)
    obtain ⟨S0, hS0⟩ : ∃ S0, S0 = c.ports.map (fun p => (p, ([] : List Int))) := ⟨_, rfl⟩
    rw [← hS0] at HP2 HQ2 HO
    have hz2 : hi2 ≤ w2.heap.size := by omega
    clear hp hb hck hpc hlo hlo1 hlo2 hhi1 hhi2 hS0 y0 y1 y2 y3 y4
    go_wp2_with (first | (go_at_call 11; refine (num_any _ _).mono ?_; rintro e w' ⟨rfl, hw⟩; subst w') | fail)
    go_loopw [11] (fun a wr => ∃ (i : Nat) (Sp Sq : PSt), i ≤ xs.length ∧ i ≤ 40 ∧ a = .int .i64 i ∧ Hid (Of Sp c.ports) ∧ Hid (Of Sq c.ports) ∧ Hid (PortsIs wr pb lo hi Sp) ∧ Hid (PortsIs wr qb lo2 hi2 Sq) ∧ Hid (Below w.heap.size w wr) ∧ Hid (hi2 ≤ wr.heap.size) ∧ Hid (wr.heap[ga]? = some (.cells #[.int .i64 c.frame, .int .i64 c.quiet, pv, wv, .slice oa c.ports.length oc] 26 (0, 0)))) (fun a _ => 40 - (intOf a).toNat)
    case atStart => exact ⟨0, S0, S0, by omega, by omega, rfl, HO, HO, HP2, HQ2, HB2, Lib.hid hz2, HA2⟩
    case round =>
      obtain ⟨i, Sp, Sq, hi', hi40, rfl, HOP, HOQ, HP, HQ, HB, HSZ, HAk⟩ := hrel
      by_cases hlt : i < xs.length
      · by_cases h40 : i < 40
        · have c1 : (i : Int) < 40 := by omega
          go_wp2_with fail
          go_loopw [12] (fun a wr => ∃ (k : Nat) (Sp Sq : PSt), k ≤ c.ports.length ∧ a = .int .i64 k ∧ Hid (Of Sp c.ports) ∧ Hid (Of Sq c.ports) ∧ Hid (PortsIs wr pb lo hi Sp) ∧ Hid (PortsIs wr qb lo2 hi2 Sq) ∧ Hid (Below w.heap.size w wr) ∧ Hid (hi2 ≤ wr.heap.size) ∧ Hid (wr.heap[ga]? = some (.cells #[.int .i64 c.frame, .int .i64 c.quiet, pv, wv, .slice oa c.ports.length oc] 26 (0, 0)))) (fun a _ => c.ports.length - (intOf a).toNat)
          case atStart => exact ⟨0, Sp, Sq, by omega, rfl, HOP, HOQ, HP, HQ, HB, HSZ, HAk⟩
          case round =>
            clear HOP HOQ HP HQ HB HSZ HAk
            obtain ⟨k, Sp, Sq, hk', rfl, HOP, HOQ, HP, HQ, HB, HSZ, HAk⟩ := hrel
            have y4 := BlockIs.of HAk.out 4 _ rfl
            by_cases hkl : k < c.ports.length
            · obtain ⟨x, hx⟩ : ∃ x, x = c.ports[k] := ⟨_, rfl⟩
              obtain ⟨y, hy⟩ : ∃ y, y = bits BinOp.and IntKind.i64 xs[i] 65535 := ⟨_, rfl⟩
              have hy0 : 0 ≤ y ∧ y < 65536 := by rw [hy, i64_and65535]; omega
              obtain ⟨dp, hdp⟩ : ∃ dp, dp = wDrop Sp x.from_ (k : Int) y := ⟨_, rfl⟩
              obtain ⟨dq, hdq⟩ : ∃ dq, dq = wDrop Sq x.from_ (k : Int) y := ⟨_, rfl⟩
              have HWE := Lib.hid (And.intro (show wErr Sp x.from_ (k : Int) y = 0 by rw [hx]; exact HOP.out.werr hkl y hy0.1 hy0.2) hdp)
              have HWE2 := Lib.hid (And.intro (show wErr Sq x.from_ (k : Int) y = 0 by rw [hx]; exact HOQ.out.werr hkl y hy0.1 hy0.2) hdq)
              have HYE := Lib.hid hy.symm
              obtain ⟨bw, ow, cp, e, hwd⟩ := HX.out.get hlt
              injection e with e _ e3
              subst e
              subst e3
              obtain ⟨ba, off, cc, e, hpt⟩ : ∃ b off cap, Value.slice oa c.ports.length oc = .slice (some ⟨b, off, none⟩) c.ports.length cap ∧ PortAt w b (off + k * 4) x := by
                obtain ⟨_, _, e, -, -, -, hq⟩ := HPV.out
                obtain ⟨b, off, hb, hq2⟩ := hq (by intro h; rw [h] at hkl; simp at hkl)
                injection e with e1 _ e3
                subst e1; subst e3
                exact ⟨b, off, oc, by rw [hb], by rw [hx]; exact hq2 k hkl⟩
              injection e with e _ e3
              subst e
              subst e3
              obtain ⟨x0, x1, x2, x3⟩ := hpt.ext (Ext.below HB.out)
              unfold IntAt at x0 x1 x2 x3
              obtain ⟨w6, hw_w6⟩ : ∃ w6, w6 = wr.alloc (.cells #[.int .i64 x.kind, .int .i64 x.from_, .int .i64 x.to_, .int .i64 x.size] 56) := ⟨_, rfl⟩
              obtain ⟨bx, hg_bx⟩ : ∃ bx, bx = wr.heap.size := ⟨_, rfl⟩
              have hb_w6 : Below wr.heap.size wr w6 := by rw [hw_w6]; exact balloc _ _
              have hk_bx : w6.heap[bx]? = some (.cells #[.int .i64 x.kind, .int .i64 x.from_, .int .i64 x.to_, .int .i64 x.size] 56 (0, 0)) := by rw [hw_w6, hg_bx]; exact blk_new _ _
              have hs_w6 : w6.heap.size = wr.heap.size + 1 := by rw [hw_w6]; simp
              have HP6 := Lib.hid (HP.out.keep hb_w6)
              have HQ6 := Lib.hid (HQ.out.keep hb_w6)
              have HB6 := Lib.hid (bthen HB.out hb_w6)
              have HA6 := Lib.hid (keep_at HAk.out hb_w6)
              have HK6 := Lib.hid hk_bx
              have HSZ6 := Lib.hid (Nat.le_trans HSZ.out hb_w6.size)
              have HBXL := Lib.hid (show hi ≤ bx ∧ hi2 ≤ bx by have := HSZ.out; have := HL.out; omega)
              have HBX := Lib.hid (BlockIs.of hk_bx 1 _ rfl)
              have HWD0 := Lib.hid hwd
              have HWD := Lib.hid (show w6.cell? ⟨bw, ow + i, none⟩ = some (.int .i64 xs[i]) from IntAt.ext (Ext.below HB6.out) hwd)
              have HXI := Lib.hid hx
              have HHY := Lib.hid hy0
              clear hb_w6 hs_w6 hk_bx hx hy hdp hdq hwd hpt hy0
              go_wp2_with fail
              rw [← hw_w6, ← hg_bx]
              clear hw_w6 hg_bx x0 x1 x2 x3 y4
              refine region_inv0 rfl (by kernel_rfl) (PInv (BlV pb bx k bw ow xs.length cw i x.from_ xs[i] y dp) 9 (fun W => ∃ m, W = w6.drewN m) (fun W => PortsIs W pb lo hi (wSt Sp x.from_ (k : Int) y) ∧ Keeps (Between lo hi) w6 W)) (fun vs h0 => ⟨(fun i h => by cases h), (fun _ => ⟨1, rfl⟩), (fun h => by cases h)⟩) ?_ ?_
              · simp (config := { maxSteps := 4000000 }) only [List.map, putAll, Act.put, InvE, List.setIfInBounds_toArray, List.set_cons_succ, List.set_cons_zero, Nat.reduceAdd]
                refine ⟨?_, ?_, ?_, ?_, ?_, ?_, ?_, ?_, ?_, ?_, ?_, ?_, ?_, ?_, ?_, trivial⟩
                all_goals
                  intro L vs W hI hi hn hcl K hK
                  rw [if_pos (by simp [Region.wanted])]
                · have HK := Lib.hid (fun v h => hK v W ⟨pv_upd hI.pv h, hI.s0, hI.s1⟩)
                  clear hK hI hn hcl hi
                  go_simp
                  exact HK.out _ rfl
                · have HK := Lib.hid (fun v h => hK v W ⟨pv_upd hI.pv h, hI.s0, hI.s1⟩)
                  clear hK hI hn hcl hi
                  go_simp
                  exact HK.out _ rfl
                · have r1 : vs 1 = .pointer (some ⟨bx, 1, none⟩) := hI.pv 1 (hn 1 rfl)
                  have hLn : L 9 = false := by
                    cases h : L 9
                    · rfl
                    · exact absurd (hcl 9 _ rfl h 2 rfl) (Bool.eq_false_iff.1 hi)
                  have HS := Lib.hid (hI.s0 hLn)
                  obtain ⟨nn, hnn⟩ := HS.out
                  have y0 : W.cell? ⟨bx, 1, none⟩ = some (.int .i64 x.from_) := by rw [hnn]; exact HBX.out
                  clear hnn
                  simp only [r1] at hK ⊢
                  have HK := Lib.hid (fun v h => hK v W ⟨pv_upd hI.pv h, hI.s0, hI.s1⟩)
                  clear hK hI hn hcl hi hLn
                  go_simp
                  exact HK.out _ rfl
                · have HK := Lib.hid (fun v h => hK v W ⟨pv_upd hI.pv h, hI.s0, hI.s1⟩)
                  clear hK hI hn hcl hi
                  go_simp
                  exact HK.out _ rfl
                · have HK := Lib.hid (fun v h => hK v W ⟨pv_upd hI.pv h, hI.s0, hI.s1⟩)
                  clear hK hI hn hcl hi
                  go_simp
                  exact HK.out _ rfl
                · have HK := Lib.hid (fun v h => hK v W ⟨pv_upd hI.pv h, hI.s0, hI.s1⟩)
                  clear hK hI hn hcl hi
                  go_simp
                  exact HK.out _ rfl
                · have r4 : vs 4 = .slice (some ⟨bw, ow, none⟩) xs.length cw := hI.pv 4 (hn 4 rfl)
                  have r5 : vs 5 = .int .i64 (i : Int) := hI.pv 5 (hn 5 rfl)
                  simp only [r4, r5] at hK ⊢
                  have HK := Lib.hid (fun v h => hK v W ⟨pv_upd hI.pv h, hI.s0, hI.s1⟩)
                  clear hK hI hn hcl hi
                  go_simp
                  exact HK.out _ rfl
                · have r6 : vs 6 = .pointer (some ⟨bw, ow + i, none⟩) := hI.pv 6 (hn 6 rfl)
                  have hLn : L 9 = false := by
                    cases h : L 9
                    · rfl
                    · exact absurd (hcl 8 _ rfl (hcl 9 _ rfl h 8 rfl) 7 rfl) (Bool.eq_false_iff.1 hi)
                  have HS := Lib.hid (hI.s0 hLn)
                  obtain ⟨nn, hnn⟩ := HS.out
                  have y0 : W.cell? ⟨bw, ow + i, none⟩ = some (.int .i64 xs[i]) := by rw [hnn]; exact HWD.out
                  clear hnn
                  simp only [r6] at hK ⊢
                  have HK := Lib.hid (fun v h => hK v W ⟨pv_upd hI.pv h, hI.s0, hI.s1⟩)
                  clear hK hI hn hcl hi hLn
                  go_simp
                  exact HK.out _ rfl
                · have r7 : vs 7 = .int .i64 xs[i] := hI.pv 7 (hn 7 rfl)
                  have hLn : L 9 = false := by
                    cases h : L 9
                    · rfl
                    · exact absurd (hcl 9 _ rfl h 8 rfl) (Bool.eq_false_iff.1 hi)
                  have HS := Lib.hid (hI.s0 hLn)
                  have e0 := HYE.out
                  simp only [r7] at hK ⊢
                  have HK := Lib.hid (fun v h => hK v W ⟨pv_upd hI.pv h, hI.s0, hI.s1⟩)
                  clear hK hI hn hcl hi hLn
                  go_simp
                  exact HK.out _ rfl
                · have r0 : vs 0 = .pointer (some ⟨pb, 0, none⟩) := hI.pv 0 (hn 0 rfl)
                  have r2 : vs 2 = .int .i64 x.from_ := hI.pv 2 (hn 2 rfl)
                  have r3 : vs 3 = .int .i64 (k : Int) := hI.pv 3 (hn 3 rfl)
                  have r8 : vs 8 = .int .i64 y := hI.pv 8 (hn 8 rfl)
                  simp only [r0, r2, r3, r8] at hK ⊢
                  have hs := hI.s0 hi
                  obtain ⟨nn, rfl⟩ := hs
                  have HK := Lib.hid hK
                  have HPV := Lib.hid hI.pv
                  clear hK hI hn hcl hi
                  go_simp
                  go_at_call 14
                  refine (ports_write pb lo hi Sp x.from_ (k : Int) y _ (HP6.out.keep (below_drewN (Below.refl _ _) nn))).mono ?_
                  rw [HWE.out.1, ← HWE.out.2]
                  rintro e w' ⟨rfl, hp, hkk⟩
                  exact HK.out _ _ ⟨pv_upd HPV.out rfl, (fun q => absurd q (by simp [updB])), fun _ => ⟨hp, (Keeps.of_below (below_drewN (Below.refl _ _) nn)).trans hkk⟩⟩
                · have r9 : vs 9 = .tuple #[.bool dp, .int .i64 0] := hI.pv 9 (hn 9 rfl)
                  simp only [r9] at hK ⊢
                  have HK := Lib.hid (fun v h => hK v W ⟨pv_upd hI.pv h, hI.s0, hI.s1⟩)
                  clear hK hI hn hcl hi
                  go_simp
                  exact HK.out _ rfl
                · have r10 : vs 10 = .tuple #[.bool dp, .int .i64 0] := hI.pv 10 (hn 10 rfl)
                  simp only [r10] at hK ⊢
                  have HK := Lib.hid (fun v h => hK v W ⟨pv_upd hI.pv h, hI.s0, hI.s1⟩)
                  clear hK hI hn hcl hi
                  go_simp
                  exact HK.out _ rfl
                · have r10 : vs 10 = .tuple #[.bool dp, .int .i64 0] := hI.pv 10 (hn 10 rfl)
                  simp only [r10] at hK ⊢
                  have HK := Lib.hid (fun v h => hK v W ⟨pv_upd hI.pv h, hI.s0, hI.s1⟩)
                  clear hK hI hn hcl hi
                  go_simp
                  exact HK.out _ rfl
                · have r11 : vs 11 = .bool dp := hI.pv 11 (hn 11 rfl)
                  simp only [r11] at hK ⊢
                  have HK := Lib.hid (fun v h => hK v W ⟨pv_upd hI.pv h, hI.s0, hI.s1⟩)
                  clear hK hI hn hcl hi
                  go_simp
                  exact HK.out _ rfl
                · have r12 : vs 12 = .int .i64 0 := hI.pv 12 (hn 12 rfl)
                  simp only [r12] at hK ⊢
                  have HK := Lib.hid (fun v h => hK v W ⟨pv_upd hI.pv h, hI.s0, hI.s1⟩)
                  clear hK hI hn hcl hi
                  go_simp
                  exact HK.out _ rfl
              · intro vs W hI
                simp only [List.map, putAll, Act.put, List.setIfInBounds_toArray, List.set_cons_succ, List.set_cons_zero, Nat.reduceAdd]
                have hs1 := hI.s1 (by simp)
                have r0 : vs 0 = .pointer (some ⟨pb, 0, none⟩) := hI.pv 0 (by simp)
                have r1 : vs 1 = .pointer (some ⟨bx, 1, none⟩) := hI.pv 1 (by simp)
                have r2 : vs 2 = .int .i64 x.from_ := hI.pv 2 (by simp)
                have r3 : vs 3 = .int .i64 (k : Int) := hI.pv 3 (by simp)
                have r4 : vs 4 = .slice (some ⟨bw, ow, none⟩) xs.length cw := hI.pv 4 (by simp)
                have r5 : vs 5 = .int .i64 (i : Int) := hI.pv 5 (by simp)
                have r6 : vs 6 = .pointer (some ⟨bw, ow + i, none⟩) := hI.pv 6 (by simp)
                have r7 : vs 7 = .int .i64 xs[i] := hI.pv 7 (by simp)
                have r8 : vs 8 = .int .i64 y := hI.pv 8 (by simp)
                have r9 : vs 9 = .tuple #[.bool dp, .int .i64 0] := hI.pv 9 (by simp)
                have r10 : vs 10 = .tuple #[.bool dp, .int .i64 0] := hI.pv 10 (by simp)
                have r11 : vs 11 = .bool dp := hI.pv 11 (by simp)
                have r12 : vs 12 = .int .i64 0 := hI.pv 12 (by simp)
                have r13 : vs 13 = .bool dp := hI.pv 13 (by simp)
                have r14 : vs 14 = .int .i64 0 := hI.pv 14 (by simp)
                simp only [r0, r1, r2, r3, r4, r5, r6, r7, r8, r9, r10, r11, r12, r13, r14]
                clear hI r0 r1 r2 r3 r4 r5 r6 r7 r8 r9 r10 r11 r12 r13 r14
                obtain ⟨w7, hw7⟩ : ∃ w7, w7 = W := ⟨_, rfl⟩
                rw [← hw7] at hs1 ⊢
                have HP7 := Lib.hid hs1.1
                have HQ7 := Lib.hid (HQ6.out.far hs1.2 (fun j h1 h2 h3 => by have := HL.out; have := h3.2; omega))
                have HBX := Lib.hid (BlockIs.of (hs1.2.at HK6.out (fun h => by have := HBXL.out; have := h.2; omega)) 1 _ rfl)
                have HK7 := Lib.hid (hs1.2.at HK6.out (fun h => by have := HBXL.out; have := h.2; omega))
                have HA7 := Lib.hid (hs1.2.at HA6.out (fun h => by have := HL.out; have := h.1; omega))
                have HB7 := Lib.hid (HB6.out.trans (between_below hs1.2 HB6.out.size HL.out.1))
                have HSZ7 := Lib.hid (Nat.le_trans HSZ6.out hs1.2.size)
                have HWD := Lib.hid (show w7.cell? ⟨bw, ow + i, none⟩ = some (.int .i64 xs[i]) from IntAt.ext (Ext.below HB7.out) HWD0.out)
                obtain ⟨Sp2, hSp2⟩ : ∃ S, S = wSt Sp x.from_ (k : Int) y := ⟨_, rfl⟩
                have HOP2 := Lib.hid (show Of Sp2 c.ports by rw [hSp2]; exact HOP.out.w _ _ _)
                rw [← hSp2] at HP7
                clear hs1 hw7 hSp2 HOP
                have HWE := HWE2
                clear HWE2
                go_wp2_with fail
                refine region_inv0 rfl (by kernel_rfl) (PInv (BlV qb bx k bw ow xs.length cw i x.from_ xs[i] y dq) 9 (fun W => ∃ m, W = w7.drewN m) (fun W => PortsIs W qb lo2 hi2 (wSt Sq x.from_ (k : Int) y) ∧ Keeps (Between lo2 hi2) w7 W)) (fun vs h0 => ⟨(fun i h => by cases h), (fun _ => ⟨1, rfl⟩), (fun h => by cases h)⟩) ?_ ?_
                · simp (config := { maxSteps := 4000000 }) only [List.map, putAll, Act.put, InvE, List.setIfInBounds_toArray, List.set_cons_succ, List.set_cons_zero, Nat.reduceAdd]
                  refine ⟨?_, ?_, ?_, ?_, ?_, ?_, ?_, ?_, ?_, ?_, ?_, ?_, ?_, ?_, ?_, trivial⟩
                  all_goals
                    intro L vs W hI hi hn hcl K hK
                    rw [if_pos (by simp [Region.wanted])]
                  · have HK := Lib.hid (fun v h => hK v W ⟨pv_upd hI.pv h, hI.s0, hI.s1⟩)
                    clear hK hI hn hcl hi
                    go_simp
                    exact HK.out _ rfl
                  · have HK := Lib.hid (fun v h => hK v W ⟨pv_upd hI.pv h, hI.s0, hI.s1⟩)
                    clear hK hI hn hcl hi
                    go_simp
                    exact HK.out _ rfl
                  · have r1 : vs 1 = .pointer (some ⟨bx, 1, none⟩) := hI.pv 1 (hn 1 rfl)
                    have hLn : L 9 = false := by
                      cases h : L 9
                      · rfl
                      · exact absurd (hcl 9 _ rfl h 2 rfl) (Bool.eq_false_iff.1 hi)
                    have HS := Lib.hid (hI.s0 hLn)
                    obtain ⟨nn, hnn⟩ := HS.out
                    have y0 : W.cell? ⟨bx, 1, none⟩ = some (.int .i64 x.from_) := by rw [hnn]; exact HBX.out
                    clear hnn
                    simp only [r1] at hK ⊢
                    have HK := Lib.hid (fun v h => hK v W ⟨pv_upd hI.pv h, hI.s0, hI.s1⟩)
                    clear hK hI hn hcl hi hLn
                    go_simp
                    exact HK.out _ rfl
                  · have HK := Lib.hid (fun v h => hK v W ⟨pv_upd hI.pv h, hI.s0, hI.s1⟩)
                    clear hK hI hn hcl hi
                    go_simp
                    exact HK.out _ rfl
                  · have HK := Lib.hid (fun v h => hK v W ⟨pv_upd hI.pv h, hI.s0, hI.s1⟩)
                    clear hK hI hn hcl hi
                    go_simp
                    exact HK.out _ rfl
                  · have HK := Lib.hid (fun v h => hK v W ⟨pv_upd hI.pv h, hI.s0, hI.s1⟩)
                    clear hK hI hn hcl hi
                    go_simp
                    exact HK.out _ rfl
                  · have r4 : vs 4 = .slice (some ⟨bw, ow, none⟩) xs.length cw := hI.pv 4 (hn 4 rfl)
                    have r5 : vs 5 = .int .i64 (i : Int) := hI.pv 5 (hn 5 rfl)
                    simp only [r4, r5] at hK ⊢
                    have HK := Lib.hid (fun v h => hK v W ⟨pv_upd hI.pv h, hI.s0, hI.s1⟩)
                    clear hK hI hn hcl hi
                    go_simp
                    exact HK.out _ rfl
                  · have r6 : vs 6 = .pointer (some ⟨bw, ow + i, none⟩) := hI.pv 6 (hn 6 rfl)
                    have hLn : L 9 = false := by
                      cases h : L 9
                      · rfl
                      · exact absurd (hcl 8 _ rfl (hcl 9 _ rfl h 8 rfl) 7 rfl) (Bool.eq_false_iff.1 hi)
                    have HS := Lib.hid (hI.s0 hLn)
                    obtain ⟨nn, hnn⟩ := HS.out
                    have y0 : W.cell? ⟨bw, ow + i, none⟩ = some (.int .i64 xs[i]) := by rw [hnn]; exact HWD.out
                    clear hnn
                    simp only [r6] at hK ⊢
                    have HK := Lib.hid (fun v h => hK v W ⟨pv_upd hI.pv h, hI.s0, hI.s1⟩)
                    clear hK hI hn hcl hi hLn
                    go_simp
                    exact HK.out _ rfl
                  · have r7 : vs 7 = .int .i64 xs[i] := hI.pv 7 (hn 7 rfl)
                    have hLn : L 9 = false := by
                      cases h : L 9
                      · rfl
                      · exact absurd (hcl 9 _ rfl h 8 rfl) (Bool.eq_false_iff.1 hi)
                    have HS := Lib.hid (hI.s0 hLn)
                    have e0 := HYE.out
                    simp only [r7] at hK ⊢
                    have HK := Lib.hid (fun v h => hK v W ⟨pv_upd hI.pv h, hI.s0, hI.s1⟩)
                    clear hK hI hn hcl hi hLn
                    go_simp
                    exact HK.out _ rfl
                  · have r0 : vs 0 = .pointer (some ⟨qb, 0, none⟩) := hI.pv 0 (hn 0 rfl)
                    have r2 : vs 2 = .int .i64 x.from_ := hI.pv 2 (hn 2 rfl)
                    have r3 : vs 3 = .int .i64 (k : Int) := hI.pv 3 (hn 3 rfl)
                    have r8 : vs 8 = .int .i64 y := hI.pv 8 (hn 8 rfl)
                    simp only [r0, r2, r3, r8] at hK ⊢
                    have hs := hI.s0 hi
                    obtain ⟨nn, rfl⟩ := hs
                    have HK := Lib.hid hK
                    have HPV := Lib.hid hI.pv
                    clear hK hI hn hcl hi
                    go_simp
                    go_at_call 14
                    refine (ports_write qb lo2 hi2 Sq x.from_ (k : Int) y _ (HQ7.out.keep (below_drewN (Below.refl _ _) nn))).mono ?_
                    rw [HWE.out.1, ← HWE.out.2]
                    rintro e w' ⟨rfl, hp, hkk⟩
                    exact HK.out _ _ ⟨pv_upd HPV.out rfl, (fun q => absurd q (by simp [updB])), fun _ => ⟨hp, (Keeps.of_below (below_drewN (Below.refl _ _) nn)).trans hkk⟩⟩
                  · have r9 : vs 9 = .tuple #[.bool dq, .int .i64 0] := hI.pv 9 (hn 9 rfl)
                    simp only [r9] at hK ⊢
                    have HK := Lib.hid (fun v h => hK v W ⟨pv_upd hI.pv h, hI.s0, hI.s1⟩)
                    clear hK hI hn hcl hi
                    go_simp
                    exact HK.out _ rfl
                  · have r10 : vs 10 = .tuple #[.bool dq, .int .i64 0] := hI.pv 10 (hn 10 rfl)
                    simp only [r10] at hK ⊢
                    have HK := Lib.hid (fun v h => hK v W ⟨pv_upd hI.pv h, hI.s0, hI.s1⟩)
                    clear hK hI hn hcl hi
                    go_simp
                    exact HK.out _ rfl
                  · have r10 : vs 10 = .tuple #[.bool dq, .int .i64 0] := hI.pv 10 (hn 10 rfl)
                    simp only [r10] at hK ⊢
                    have HK := Lib.hid (fun v h => hK v W ⟨pv_upd hI.pv h, hI.s0, hI.s1⟩)
                    clear hK hI hn hcl hi
                    go_simp
                    exact HK.out _ rfl
                  · have r11 : vs 11 = .bool dq := hI.pv 11 (hn 11 rfl)
                    simp only [r11] at hK ⊢
                    have HK := Lib.hid (fun v h => hK v W ⟨pv_upd hI.pv h, hI.s0, hI.s1⟩)
                    clear hK hI hn hcl hi
                    go_simp
                    exact HK.out _ rfl
                  · have r12 : vs 12 = .int .i64 0 := hI.pv 12 (hn 12 rfl)
                    simp only [r12] at hK ⊢
                    have HK := Lib.hid (fun v h => hK v W ⟨pv_upd hI.pv h, hI.s0, hI.s1⟩)
                    clear hK hI hn hcl hi
                    go_simp
                    exact HK.out _ rfl
                · intro vs W hI
                  simp only [List.map, putAll, Act.put, List.setIfInBounds_toArray, List.set_cons_succ, List.set_cons_zero, Nat.reduceAdd]
                  have hs1 := hI.s1 (by simp)
                  have r0 : vs 0 = .pointer (some ⟨qb, 0, none⟩) := hI.pv 0 (by simp)
                  have r1 : vs 1 = .pointer (some ⟨bx, 1, none⟩) := hI.pv 1 (by simp)
                  have r2 : vs 2 = .int .i64 x.from_ := hI.pv 2 (by simp)
                  have r3 : vs 3 = .int .i64 (k : Int) := hI.pv 3 (by simp)
                  have r4 : vs 4 = .slice (some ⟨bw, ow, none⟩) xs.length cw := hI.pv 4 (by simp)
                  have r5 : vs 5 = .int .i64 (i : Int) := hI.pv 5 (by simp)
                  have r6 : vs 6 = .pointer (some ⟨bw, ow + i, none⟩) := hI.pv 6 (by simp)
                  have r7 : vs 7 = .int .i64 xs[i] := hI.pv 7 (by simp)
                  have r8 : vs 8 = .int .i64 y := hI.pv 8 (by simp)
                  have r9 : vs 9 = .tuple #[.bool dq, .int .i64 0] := hI.pv 9 (by simp)
                  have r10 : vs 10 = .tuple #[.bool dq, .int .i64 0] := hI.pv 10 (by simp)
                  have r11 : vs 11 = .bool dq := hI.pv 11 (by simp)
                  have r12 : vs 12 = .int .i64 0 := hI.pv 12 (by simp)
                  have r13 : vs 13 = .bool dq := hI.pv 13 (by simp)
                  have r14 : vs 14 = .int .i64 0 := hI.pv 14 (by simp)
                  simp only [r0, r1, r2, r3, r4, r5, r6, r7, r8, r9, r10, r11, r12, r13, r14]
                  clear hI r0 r1 r2 r3 r4 r5 r6 r7 r8 r9 r10 r11 r12 r13 r14
                  obtain ⟨w8, hw8⟩ : ∃ w8, w8 = W := ⟨_, rfl⟩
                  rw [← hw8] at hs1 ⊢
                  have HQ8 := Lib.hid hs1.1
                  have HP8 := Lib.hid (HP7.out.far hs1.2 (fun j h1 h2 h3 => by have := HL.out; have := h3.1; omega))
                  have HK8 := Lib.hid (hs1.2.at HK7.out (fun h => by have := HBXL.out; have := h.2; omega))
                  have HBX5 := Lib.hid (BlockIs.of HK8.out 1 _ rfl)
                  have HA8 := Lib.hid (hs1.2.at HA7.out (fun h => by have := HL.out; have := h.1; omega))
                  have HB8 := Lib.hid (HB7.out.trans (between_below hs1.2 HB7.out.size HL.out.2.2.1))
                  have HSZ8 := Lib.hid (Nat.le_trans HSZ7.out hs1.2.size)
                  obtain ⟨Sq2, hSq2⟩ : ∃ S, S = wSt Sq x.from_ (k : Int) y := ⟨_, rfl⟩
                  have HOQ2 := Lib.hid (show Of Sq2 c.ports by rw [hSq2]; exact HOQ.out.w _ _ _)
                  rw [← hSq2] at HQ8
                  obtain ⟨oo, hoo⟩ : ∃ oo, oo = outsS Sp2 x.from_ := ⟨_, rfl⟩
                  have HOO := Lib.hid (And.intro hoo (show oo = outsS Sq2 x.from_ by rw [hoo]; exact outs_of HOP2.out HOQ2.out _))
                  have hxm : x ∈ c.ports := by rw [HXI.out]; exact List.getElem_mem hkl
                  obtain ⟨GG, hGG⟩ : ∃ GG, GG = getsS Sp2 x.from_ := ⟨_, rfl⟩
                  have HGE := Lib.hid (And.intro hGG.symm (show getsS Sq2 x.from_ = GG by rw [hGG, gets_of HOP2.out _ (HFT.out x hxm), gets_of HOQ2.out _ (HFT.out x hxm)]))
                  have HLEN := Lib.hid (And.intro HOP2.out.len HOQ2.out.len)
                  have HP5 := HP8
                  have HQ5 := HQ8
                  clear hs1 hw8 hSq2 HOQ hoo hxm hGG HWE HWD HBX
                  go_wp2_with fail
                  refine region_v rfl (by kernel_rfl) (fun (i : Nat) (v : Value) (W : World) => match i with | 0 => v = .int .i64 0 | 1 => v = .int .i64 0 | 2 => v = .bool false | 3 => v = .bool false | 4 => v = .int .i64 0 | 5 => v = .int .i64 0 | 6 => v = .bool false | 7 => v = .bool false | 8 => v = .bool false | 9 => v = .pointer (some ⟨pb, 0, none⟩) | 10 => v = .pointer (some ⟨bx, 1, none⟩) | 11 => v = .int .i64 x.from_ | 12 => v = .int .i64 oo | 13 => v = .pointer (some ⟨qb, 0, none⟩) | 14 => v = .pointer (some ⟨bx, 1, none⟩) | 15 => v = .int .i64 x.from_ | 16 => v = .int .i64 oo | 17 => v = .bool false | 18 => v = .bool false | 19 => v = .bool false | 20 => v = .pointer (some ⟨pb, 0, none⟩) | 21 => v = .pointer (some ⟨bx, 1, none⟩) | 22 => v = .int .i64 x.from_ | 23 => IntsV W v GG | 24 => v = .pointer (some ⟨qb, 0, none⟩) | 25 => v = .pointer (some ⟨bx, 1, none⟩) | 26 => v = .int .i64 x.from_ | 27 => IntsV W v GG | 28 => v = .bool true | 29 => v = .bool false | 30 => v = .bool false | _ => True) ?_ ?_ ?_
                  · intro i v W W' hb h
                    (try dsimp only at h ⊢)
                    split at h <;> first | exact h | exact IntsV.ext (Ext.below hb) h | trivial
                  · simp (config := { maxSteps := 4000000 }) only [List.map, putAll, Act.put, VE, List.setIfInBounds_toArray, List.set_cons_succ, List.set_cons_zero, Nat.reduceAdd]
                    refine ⟨?_, ?_, ?_, ?_, ?_, ?_, ?_, ?_, ?_, ?_, ?_, ?_, ?_, ?_, ?_, ?_, ?_, ?_, ?_, ?_, ?_, ?_, ?_, ?_, ?_, ?_, ?_, ?_, ?_, ?_, ?_, trivial⟩
                    all_goals intro vs W hB hr KK hK
                    · rw [if_pos (by simp [Region.wanted])]
                      have HK := Lib.hid hK
                      clear hK hr
                      go_simp
                      exact HK.out _ W (Below.refl _ _) rfl
                    · have r0 : vs 0 = .int .i64 0 := hr 0 rfl
                      rw [if_pos (by simp [Region.wanted])]
                      simp only [r0] at hK ⊢
                      have HK := Lib.hid hK
                      have HB := Lib.hid hB
                      clear hK hr hB
                      go_simp
                      refine (num_any _ _).mono ?_
                      rintro e w5 ⟨rfl, rfl⟩
                      exact HK.out _ _ (Below.refl _ _) rfl
                    · have r1 : vs 1 = .int .i64 0 := hr 1 rfl
                      rw [if_pos (by simp [Region.wanted])]
                      simp only [r1] at hK ⊢
                      have HK := Lib.hid hK
                      clear hK hr
                      go_simp
                      exact HK.out _ W (Below.refl _ _) rfl
                    · have r2 : vs 2 = .bool false := hr 2 rfl
                      rw [if_pos (by simp [Region.wanted])]
                      simp only [r2] at hK ⊢
                      have HK := Lib.hid hK
                      clear hK hr
                      go_simp
                      exact HK.out _ W (Below.refl _ _) rfl
                    · have r3 : vs 3 = .bool false := hr 3 rfl
                      rw [if_pos (by simp [Region.wanted, yielded, r3])]
                      simp only [r3] at hK ⊢
                      have HK := Lib.hid hK
                      clear hK hr
                      go_simp
                      exact HK.out _ W (Below.refl _ _) rfl
                    · have r3 : vs 3 = .bool false := hr 3 rfl
                      have r4 : vs 4 = .int .i64 0 := hr 4 rfl
                      rw [if_pos (by simp [Region.wanted, yielded, r3])]
                      simp only [r3, r4] at hK ⊢
                      have HK := Lib.hid hK
                      have HB := Lib.hid hB
                      clear hK hr hB
                      go_simp
                      refine (num_any _ _).mono ?_
                      rintro e w5 ⟨rfl, rfl⟩
                      exact HK.out _ _ (Below.refl _ _) rfl
                    · have r3 : vs 3 = .bool false := hr 3 rfl
                      have r5 : vs 5 = .int .i64 0 := hr 5 rfl
                      rw [if_pos (by simp [Region.wanted, yielded, r3])]
                      simp only [r3, r5] at hK ⊢
                      have HK := Lib.hid hK
                      clear hK hr
                      go_simp
                      exact HK.out _ W (Below.refl _ _) rfl
                    · have r3 : vs 3 = .bool false := hr 3 rfl
                      have r6 : vs 6 = .bool false := hr 6 rfl
                      rw [if_pos (by simp [Region.wanted])]
                      simp only [r3, r6] at hK ⊢
                      have HK := Lib.hid hK
                      clear hK hr
                      go_simp
                      exact HK.out _ W (Below.refl _ _) rfl
                    · have r7 : vs 7 = .bool false := hr 7 rfl
                      rw [if_pos (by simp [Region.wanted])]
                      simp only [r7] at hK ⊢
                      have HK := Lib.hid hK
                      clear hK hr
                      go_simp
                      exact HK.out _ W (Below.refl _ _) rfl
                    · have r8 : vs 8 = .bool false := hr 8 rfl
                      rw [if_pos (by simp [Region.wanted, yielded, r8])]
                      simp only [r8] at hK ⊢
                      have HK := Lib.hid hK
                      clear hK hr
                      go_simp
                      exact HK.out _ W (Below.refl _ _) rfl
                    · have r8 : vs 8 = .bool false := hr 8 rfl
                      rw [if_pos (by simp [Region.wanted, yielded, r8])]
                      simp only [r8] at hK ⊢
                      have HK := Lib.hid hK
                      clear hK hr
                      go_simp
                      exact HK.out _ W (Below.refl _ _) rfl
                    · have r8 : vs 8 = .bool false := hr 8 rfl
                      have r10 : vs 10 = .pointer (some ⟨bx, 1, none⟩) := hr 10 rfl
                      rw [if_pos (by simp [Region.wanted, yielded, r8])]
                      have y0 := Ext.below hB _ _ HBX5.out
                      simp only [r8, r10] at hK ⊢
                      have HK := Lib.hid hK
                      clear hK hr
                      go_simp
                      exact HK.out _ W (Below.refl _ _) rfl
                    · have r8 : vs 8 = .bool false := hr 8 rfl
                      have r9 : vs 9 = .pointer (some ⟨pb, 0, none⟩) := hr 9 rfl
                      have r11 : vs 11 = .int .i64 x.from_ := hr 11 rfl
                      rw [if_pos (by simp [Region.wanted, yielded, r8])]
                      simp only [r8, r9, r11] at hK ⊢
                      have HK := Lib.hid hK
                      have HB := Lib.hid hB
                      clear hK hr hB
                      go_simp
                      refine (ports_outs pb lo hi Sp2 x.from_ _ (HP5.out.keep HB.out) (by rw [HLEN.out.1]; exact hp8)).mono ?_
                      rw [← HOO.out.1]
                      rintro e w5 ⟨rfl, hb5⟩
                      exact HK.out _ w5 hb5 rfl
                    · have r8 : vs 8 = .bool false := hr 8 rfl
                      rw [if_pos (by simp [Region.wanted, yielded, r8])]
                      simp only [r8] at hK ⊢
                      have HK := Lib.hid hK
                      clear hK hr
                      go_simp
                      exact HK.out _ W (Below.refl _ _) rfl
                    · have r8 : vs 8 = .bool false := hr 8 rfl
                      rw [if_pos (by simp [Region.wanted, yielded, r8])]
                      simp only [r8] at hK ⊢
                      have HK := Lib.hid hK
                      clear hK hr
                      go_simp
                      exact HK.out _ W (Below.refl _ _) rfl
                    · have r8 : vs 8 = .bool false := hr 8 rfl
                      have r14 : vs 14 = .pointer (some ⟨bx, 1, none⟩) := hr 14 rfl
                      rw [if_pos (by simp [Region.wanted, yielded, r8])]
                      have y0 := Ext.below hB _ _ HBX5.out
                      simp only [r8, r14] at hK ⊢
                      have HK := Lib.hid hK
                      clear hK hr
                      go_simp
                      exact HK.out _ W (Below.refl _ _) rfl
                    · have r8 : vs 8 = .bool false := hr 8 rfl
                      have r13 : vs 13 = .pointer (some ⟨qb, 0, none⟩) := hr 13 rfl
                      have r15 : vs 15 = .int .i64 x.from_ := hr 15 rfl
                      rw [if_pos (by simp [Region.wanted, yielded, r8])]
                      simp only [r8, r13, r15] at hK ⊢
                      have HK := Lib.hid hK
                      have HB := Lib.hid hB
                      clear hK hr hB
                      go_simp
                      refine (ports_outs qb lo2 hi2 Sq2 x.from_ _ (HQ5.out.keep HB.out) (by rw [HLEN.out.2]; exact hp8)).mono ?_
                      rw [← HOO.out.2]
                      rintro e w5 ⟨rfl, hb5⟩
                      exact HK.out _ w5 hb5 rfl
                    · have r8 : vs 8 = .bool false := hr 8 rfl
                      have r12 : vs 12 = .int .i64 oo := hr 12 rfl
                      have r16 : vs 16 = .int .i64 oo := hr 16 rfl
                      rw [if_pos (by simp [Region.wanted, yielded, r8])]
                      simp only [r8, r12, r16] at hK ⊢
                      have HK := Lib.hid hK
                      clear hK hr
                      go_simp
                      exact HK.out _ W (Below.refl _ _) rfl
                    · have r8 : vs 8 = .bool false := hr 8 rfl
                      have r17 : vs 17 = .bool false := hr 17 rfl
                      rw [if_pos (by simp [Region.wanted])]
                      simp only [r8, r17] at hK ⊢
                      have HK := Lib.hid hK
                      clear hK hr
                      go_simp
                      exact HK.out _ W (Below.refl _ _) rfl
                    · have r18 : vs 18 = .bool false := hr 18 rfl
                      rw [if_pos (by simp [Region.wanted])]
                      simp only [r18] at hK ⊢
                      have HK := Lib.hid hK
                      clear hK hr
                      go_simp
                      exact HK.out _ W (Below.refl _ _) rfl
                    · have r19 : vs 19 = .bool false := hr 19 rfl
                      rw [if_pos (by simp [Region.wanted, yielded, r19])]
                      simp only [r19] at hK ⊢
                      have HK := Lib.hid hK
                      clear hK hr
                      go_simp
                      exact HK.out _ W (Below.refl _ _) rfl
                    · have r19 : vs 19 = .bool false := hr 19 rfl
                      rw [if_pos (by simp [Region.wanted, yielded, r19])]
                      simp only [r19] at hK ⊢
                      have HK := Lib.hid hK
                      clear hK hr
                      go_simp
                      exact HK.out _ W (Below.refl _ _) rfl
                    · have r19 : vs 19 = .bool false := hr 19 rfl
                      have r21 : vs 21 = .pointer (some ⟨bx, 1, none⟩) := hr 21 rfl
                      rw [if_pos (by simp [Region.wanted, yielded, r19])]
                      have y0 := Ext.below hB _ _ HBX5.out
                      simp only [r19, r21] at hK ⊢
                      have HK := Lib.hid hK
                      clear hK hr
                      go_simp
                      exact HK.out _ W (Below.refl _ _) rfl
                    · have r19 : vs 19 = .bool false := hr 19 rfl
                      have r20 : vs 20 = .pointer (some ⟨pb, 0, none⟩) := hr 20 rfl
                      have r22 : vs 22 = .int .i64 x.from_ := hr 22 rfl
                      rw [if_pos (by simp [Region.wanted, yielded, r19])]
                      simp only [r19, r20, r22] at hK ⊢
                      have HK := Lib.hid hK
                      have HB := Lib.hid hB
                      clear hK hr hB
                      go_simp
                      refine (ports_gets pb lo hi Sp2 x.from_ _ (HP5.out.keep HB.out) (by rw [HLEN.out.1]; exact hp8)).mono ?_
                      rw [HGE.out.1]
                      rintro e w5 ⟨gv, rfl, hg5, hb5⟩
                      exact HK.out _ w5 hb5 (IntRow.ints hg5 (by rw [← HGE.out.1]; unfold getsS; rw [List.length_map, HLEN.out.1]; omega))
                    · have r19 : vs 19 = .bool false := hr 19 rfl
                      rw [if_pos (by simp [Region.wanted, yielded, r19])]
                      simp only [r19] at hK ⊢
                      have HK := Lib.hid hK
                      clear hK hr
                      go_simp
                      exact HK.out _ W (Below.refl _ _) rfl
                    · have r19 : vs 19 = .bool false := hr 19 rfl
                      rw [if_pos (by simp [Region.wanted, yielded, r19])]
                      simp only [r19] at hK ⊢
                      have HK := Lib.hid hK
                      clear hK hr
                      go_simp
                      exact HK.out _ W (Below.refl _ _) rfl
                    · have r19 : vs 19 = .bool false := hr 19 rfl
                      have r25 : vs 25 = .pointer (some ⟨bx, 1, none⟩) := hr 25 rfl
                      rw [if_pos (by simp [Region.wanted, yielded, r19])]
                      have y0 := Ext.below hB _ _ HBX5.out
                      simp only [r19, r25] at hK ⊢
                      have HK := Lib.hid hK
                      clear hK hr
                      go_simp
                      exact HK.out _ W (Below.refl _ _) rfl
                    · have r19 : vs 19 = .bool false := hr 19 rfl
                      have r24 : vs 24 = .pointer (some ⟨qb, 0, none⟩) := hr 24 rfl
                      have r26 : vs 26 = .int .i64 x.from_ := hr 26 rfl
                      rw [if_pos (by simp [Region.wanted, yielded, r19])]
                      simp only [r19, r24, r26] at hK ⊢
                      have HK := Lib.hid hK
                      have HB := Lib.hid hB
                      clear hK hr hB
                      go_simp
                      refine (ports_gets qb lo2 hi2 Sq2 x.from_ _ (HQ5.out.keep HB.out) (by rw [HLEN.out.2]; exact hp8)).mono ?_
                      rw [HGE.out.2]
                      rintro e w5 ⟨gv, rfl, hg5, hb5⟩
                      exact HK.out _ w5 hb5 (IntRow.ints hg5 (by rw [← HGE.out.1]; unfold getsS; rw [List.length_map, HLEN.out.1]; omega))
                    · have r19 : vs 19 = .bool false := hr 19 rfl
                      rw [if_pos (by simp [Region.wanted, yielded, r19])]
                      have hq1 : IntsV W (vs 23) GG := hr 23 rfl
                      have hq2 : IntsV W (vs 27) GG := hr 27 rfl
                      have HQ := Lib.hid (And.intro hq1 hq2)
                      clear hq1 hq2
                      simp only [r19] at hK ⊢
                      have HK := Lib.hid hK
                      have HB := Lib.hid hB
                      clear hK hr hB
                      go_simp
                      refine (sameInts_any _ _ GG _ HQ.out.1 HQ.out.2).mono ?_
                      rintro e w5 ⟨rfl, hb5⟩
                      exact HK.out _ w5 hb5 rfl
                    · have r19 : vs 19 = .bool false := hr 19 rfl
                      have r28 : vs 28 = .bool true := hr 28 rfl
                      rw [if_pos (by simp [Region.wanted, yielded, r19])]
                      simp only [r19, r28] at hK ⊢
                      have HK := Lib.hid hK
                      clear hK hr
                      go_simp
                      exact HK.out _ W (Below.refl _ _) rfl
                    · have r19 : vs 19 = .bool false := hr 19 rfl
                      have r29 : vs 29 = .bool false := hr 29 rfl
                      rw [if_pos (by simp [Region.wanted])]
                      simp only [r19, r29] at hK ⊢
                      have HK := Lib.hid hK
                      clear hK hr
                      go_simp
                      exact HK.out _ W (Below.refl _ _) rfl
                  · intro vs W hB hV
                    simp only [List.map, putAll, Act.put, List.setIfInBounds_toArray, List.set_cons_succ, List.set_cons_zero, Nat.reduceAdd]
                    have r0 : vs 0 = .int .i64 0 := hV 0 (by simp)
                    have r1 : vs 1 = .int .i64 0 := hV 1 (by simp)
                    have r2 : vs 2 = .bool false := hV 2 (by simp)
                    have r3 : vs 3 = .bool false := hV 3 (by simp)
                    have r4 : vs 4 = .int .i64 0 := hV 4 (by simp)
                    have r5 : vs 5 = .int .i64 0 := hV 5 (by simp)
                    have r6 : vs 6 = .bool false := hV 6 (by simp)
                    have r7 : vs 7 = .bool false := hV 7 (by simp)
                    have r8 : vs 8 = .bool false := hV 8 (by simp)
                    have r9 : vs 9 = .pointer (some ⟨pb, 0, none⟩) := hV 9 (by simp)
                    have r10 : vs 10 = .pointer (some ⟨bx, 1, none⟩) := hV 10 (by simp)
                    have r11 : vs 11 = .int .i64 x.from_ := hV 11 (by simp)
                    have r12 : vs 12 = .int .i64 oo := hV 12 (by simp)
                    have r13 : vs 13 = .pointer (some ⟨qb, 0, none⟩) := hV 13 (by simp)
                    have r14 : vs 14 = .pointer (some ⟨bx, 1, none⟩) := hV 14 (by simp)
                    have r15 : vs 15 = .int .i64 x.from_ := hV 15 (by simp)
                    have r16 : vs 16 = .int .i64 oo := hV 16 (by simp)
                    have r17 : vs 17 = .bool false := hV 17 (by simp)
                    have r18 : vs 18 = .bool false := hV 18 (by simp)
                    have r19 : vs 19 = .bool false := hV 19 (by simp)
                    have r20 : vs 20 = .pointer (some ⟨pb, 0, none⟩) := hV 20 (by simp)
                    have r21 : vs 21 = .pointer (some ⟨bx, 1, none⟩) := hV 21 (by simp)
                    have r22 : vs 22 = .int .i64 x.from_ := hV 22 (by simp)
                    have r24 : vs 24 = .pointer (some ⟨qb, 0, none⟩) := hV 24 (by simp)
                    have r25 : vs 25 = .pointer (some ⟨bx, 1, none⟩) := hV 25 (by simp)
                    have r26 : vs 26 = .int .i64 x.from_ := hV 26 (by simp)
                    have r28 : vs 28 = .bool true := hV 28 (by simp)
                    have r29 : vs 29 = .bool false := hV 29 (by simp)
                    have r30 : vs 30 = .bool false := hV 30 (by simp)
                    simp only [r0, r1, r2, r3, r4, r5, r6, r7, r8, r9, r10, r11, r12, r13, r14, r15, r16, r17, r18, r19, r20, r21, r22, r24, r25, r26, r28, r29, r30]
                    clear r0 r1 r2 r3 r4 r5 r6 r7 r8 r9 r10 r11 r12 r13 r14 r15 r16 r17 r18 r19 r20 r21 r22 r24 r25 r26 r28 r29 r30
                    obtain ⟨w9, hw9⟩ : ∃ w9, w9 = W := ⟨_, rfl⟩
                    rw [← hw9] at hB ⊢
                    have HP9 := Lib.hid (HP8.out.keep hB)
                    have HQ9 := Lib.hid (HQ8.out.keep hB)
                    have HA9 := Lib.hid (keep_at HA8.out hB)
                    have HB9 := Lib.hid (bthen HB8.out hB)
                    have HSZ9 := Lib.hid (Nat.le_trans HSZ8.out hB.size)
                    have y2 := BlockIs.of (keep_at HK8.out hB) 2 _ rfl
                    have HTE := Lib.hid (show tErr Sp2 x.to_ (k : Int) = 0 by rw [HXI.out]; exact HOP2.out.terr hkl)
                    clear hB hw9 HP8 HQ8 HA8 HB8 HSZ8 HP5 HQ5 HBX5 HK8 HOO HGE hV
                    go_wp2_with fail
                    · refine (ports_take pb lo hi Sp2 x.to_ (k : Int) _ HP9.out).mono ?_
                      rw [HTE.out]
                      rintro e w10 ⟨rfl, hp, hkk⟩
                      have HP10 := Lib.hid hp
                      have HQ10 := Lib.hid (HQ9.out.far hkk (fun j h1 h2 h3 => by have := HL.out; have := h3.2; omega))
                      have HA10 := Lib.hid (hkk.at HA9.out (fun h => by have := HL.out; have := h.1; omega))
                      have HB10 := Lib.hid (HB9.out.trans (between_below hkk HB9.out.size HL.out.1))
                      have HSZ10 := Lib.hid (Nat.le_trans HSZ9.out hkk.size)
                      have HOT := Lib.hid (HOP2.out.t x.to_ (k : Int))
                      clear hp hkk
                      go_wp2_with (first | (go_at_call 11; refine (num_any _ _).mono ?_; rintro e w' ⟨rfl, hw⟩; subst w') | fail)
                      go_roundw
                      case rel => exact ⟨k + 1, _, Sq2, by omega, by go_num, HOT, HOQ2, HP10, HQ10, HB10, HSZ10, HA10⟩
                      case measure => simp [intOf]; omega
                    · go_roundw
                      case rel => exact ⟨k + 1, Sp2, Sq2, by omega, by go_num, HOP2, HOQ2, HP9, HQ9, HB9, HSZ9, HA9⟩
                      case measure => simp [intOf]; omega
            · obtain rfl : k = c.ports.length := by omega
              go_wp2_with fail
              go_roundw
              case rel => exact ⟨i + 1, Sp, Sq, by omega, by omega, by go_num, HOP, HOQ, HP, HQ, HB, HSZ, HAk⟩
              case measure => simp [intOf]; omega
        · obtain rfl : i = 40 := by omega
          have c1 : (40 : Int) < (xs.length : Int) := by omega
          go_wp2_with fail
          go_ret
          exact ⟨rfl, HB.out⟩
      · obtain rfl : i = xs.length := by omega
        go_wp2_with fail
        go_ret
        exact ⟨rfl, HB.out⟩
  · go_wp2_with fail
    refine (ports_none c _ _ ⟨_, _, _, rfl, HC0.out⟩ hck).mono ?_
    rintro e w1 ⟨rfl, hb⟩
    have HB1 := Lib.hid (bthen HB0.out hb)
    have HC1 := Lib.hid (HC0.out.ext (Ext.below hb))
    have hk1 := keep_at HA0.out hb
    clear hb y0 y1 y2 y3 y4
    have y0 := BlockIs.of hk1 0 _ rfl
    have y1 := BlockIs.of hk1 1 _ rfl
    have y2 := BlockIs.of hk1 2 _ rfl
    have y3 := BlockIs.of hk1 3 _ rfl
    have y4 := BlockIs.of hk1 4 _ rfl
    clear hk1
    go_wp2_with fail
    refine (ports_none c _ _ ⟨_, _, _, rfl, HC1.out⟩ hck).mono ?_
    rintro e w2 ⟨rfl, hb⟩
    have HB2 := Lib.hid (bthen HB1.out hb)
    clear hb hck y0 y1 y2 y3 y4
    go_wp2_with (first | (go_at_call 11; refine (num_any _ _).mono ?_; rintro e w' ⟨rfl, hw⟩; subst w') | fail)
    go_ret
    exact ⟨rfl, HB2.out⟩
end Go.Proofs.Ytkjjfidbmkpljaa
