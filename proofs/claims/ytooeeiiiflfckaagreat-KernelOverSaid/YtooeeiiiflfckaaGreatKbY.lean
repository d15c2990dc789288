/- Several texts of this claim as one. -/
import Derived.Test.YtooeeiiiflfckaaGreatKerA
import Derived.Test.YtooeeiiiflfckaaGreatPrtA
import Derived.Test.YtooeeiiiflfckaaGreatKbX
import Derived.Test.YtooeeiiiflfckaaGreatPvmA
import Derived.Test.YtooeeiiiflfckaaGreatLibA
/- package script: Fits (printed by genfit.py). -/
set_option linter.unusedVariables false
set_option linter.unusedSimpArgs false
namespace Go.Proofs.YtooeeiiiflfckaaGreat
open Go.RowKit
def EntryAt (w : World) (b o : Nat) (e : Entry) : Prop := IntAt w b o e.at_ /\ IntAt w b (o + 1) e.kind /\ IntAt w b (o + 2) e.part /\ IntAt w b (o + 3) e.task /\ IntAt w b (o + 4) e.value
theorem EntryAt.ext {w w' : World} (x : Ext w w') {b o : Nat} {e : Entry} (h : EntryAt w b o e) : EntryAt w' b o e := ⟨h.1.ext x, h.2.1.ext x, h.2.2.1.ext x, h.2.2.2.1.ext x, h.2.2.2.2.ext x⟩
def EntriesV (w : World) (v : Value) (es : List Entry) : Prop := SliceAt EntryAt 5 40 w v es
theorem drew_two {w wq : World} (h : ∃ n, wq = w.drewN n) {m : Nat} : ∃ k, wq.drewN m = w.drewN k := by
 obtain ⟨n, rfl⟩ := h
 exact ⟨n + m, by simp⟩
set_option maxRecDepth 100000 in
set_option maxHeartbeats 8000000 in
theorem fits_any (kb eb eo : Nat) (c : Config) (pv : Value) (e : Entry) (w : World) (hp : w.cell? ⟨kb, 11, none⟩ = some pv) (hpv : PartsV w pv c.parts) (he : EntryAt w eb eo e) :
  Calls Tryz.prog 68 #[.pointer (some ⟨kb, 9, none⟩), .pointer (some ⟨eb, eo, none⟩)] w fun r w' => r = .returned (.bool (fits c e)) /\ ∃ n, w' = w.drewN n := by
 obtain ⟨xa, xk, xp, xt, xv⟩ := e
 obtain ⟨y0, y1, y2, y3, y4⟩ := he
 unfold IntAt at y0 y1 y2 y3 y4
 simp only at y0 y1 y2 y3 y4
 obtain ⟨pa, pk, rfl, hv1, hv2, hv3, hv4⟩ := hpv
 have HV := Lib.hid hv4
 have hl1 : c.parts.length <= 1000000000000000 := by omega
 obtain ⟨n, hn⟩ : ∃ n, n = c.parts.length := ⟨_, rfl⟩
 rw [<- hn] at hl1 hp
 have HN := Lib.hid hn
 clear hv1 hv2 hv3 hv4 hn
 go_enter Tryz.func68, Tryz.ntmps68
 by_cases h0 : clockB xa = true
 rotate_left 1
 ·have h0 : clockB xa = false := by simpa using h0
  have d0 : decide (0 <= xa /\ xa <= 1099511627776) = false := h0
  have HR : Hid (fits c ⟨xa, xk, xp, xt, xv⟩ = false) := Lib.hid (by unfold fits; rw [if_pos (Or.inl h0)])
  clear h0
  go_wp2_with fail
  go_quiet (first | (go_at_call 35; exact Calls.quiet_of_same (clock_any _ _)) | (go_at_call 101; exact Calls.quiet_of_same (demandMay_any _ _)))
  go_wp2_with fail
  go_ret
  exact ⟨ret_bool HR.out.symm, _, rfl⟩
 have d0 : decide (0 <= xa /\ xa <= 1099511627776) = true := h0
 by_cases h1 : xp < 0
 ·have d1 : decide (xp < 0) = true := decide_eq_true h1
  have HR : Hid (fits c ⟨xa, xk, xp, xt, xv⟩ = false) := Lib.hid (by unfold fits; rw [if_pos (Or.inr (Or.inl h1))])
  clear h0 h1
  go_wp2_with fail
  go_quiet (first | (go_at_call 35; exact Calls.quiet_of_same (clock_any _ _)) | (go_at_call 101; exact Calls.quiet_of_same (demandMay_any _ _)))
  go_wp2_with fail
  go_ret
  exact ⟨ret_bool HR.out.symm, _, rfl⟩
 have d1 : decide (xp < 0) = false := decide_eq_false h1
 by_cases h2 : xp >= (n : Int)
 ·have d2 : decide (xp >= (n : Int)) = true := decide_eq_true h2
  have HR : Hid (fits c ⟨xa, xk, xp, xt, xv⟩ = false) := Lib.hid (by unfold fits; rw [if_pos (Or.inr (Or.inr (by show (c.parts.length : Int) <= xp; rw [<- HN.out]; exact h2)))])
  clear h0 h1 h2
  go_wp2_with fail
  go_quiet (first | (go_at_call 35; exact Calls.quiet_of_same (clock_any _ _)) | (go_at_call 101; exact Calls.quiet_of_same (demandMay_any _ _)))
  go_wp2_with fail
  go_ret
  exact ⟨ret_bool HR.out.symm, _, rfl⟩
 have d2 : decide (xp >= (n : Int)) = false := decide_eq_false h2
 obtain ⟨j, rfl⟩ : ∃ j : Nat, xp = j := ⟨xp.toNat, by omega⟩
 have HR : Hid (fits c ⟨xa, xk, (j : Int), xt, xv⟩ = if xk = 0 then decide (0 <= xt /\ xt < ((c.parts.getD j ⟨0, [], []⟩).tasks.length : Int)) && demP xv else if xk = 1 then decide (xt = 0) && word xv else false) := Lib.hid (by unfold fits; rw [if_neg (by rintro (h | h | h); exact absurd (h0.symm.trans h) (by decide); exact absurd h (by simp only; omega); exact absurd h (by rw [<- HN.out]; simp only; omega)), Int.toNat_natCast])
 have hjn : j < n := by omega
 clear h1 h2 h0
 have d2' : decide ((j : Int) >= (n : Int)) = false := decide_eq_false (by omega)
 have d1' : decide ((j : Int) < 0) = false := decide_eq_false (by omega)
 go_wp2_with fail
 go_quiet (first | (go_at_call 35; exact Calls.quiet_of_same (clock_any _ _)) | (go_at_call 101; exact Calls.quiet_of_same (demandMay_any _ _)) | (go_at_call 102; exact Calls.quiet_of_same (wordMay_any _ _)))
 obtain ⟨wq, hq⟩ : ∃ wq : World, wq = w.drewN nq := ⟨_, rfl⟩
 rw [<- hq]
 have HDQ : Hid (∃ n, wq = w.drewN n) := Lib.hid ⟨nq, hq⟩
 have HQ_wq : Hid (wq.heap = w.heap /\ Below w.heap.size w wq) := Lib.hid (by rw [hq]; exact ⟨rfl, below_drewN (Below.refl _ _) _⟩)
 clear hq
 have HV2 : Hid (∀ hne : c.parts ≠ [], ∃ b off, pa = some ⟨b, off, none⟩ /\ ∀ k (hk : k < c.parts.length), PartAt wq b (off + k * 3) c.parts[k]) := Lib.hid (fun hne => by
  obtain ⟨b, off, e, hc⟩ := HV.out hne
  exact ⟨b, off, e, fun k hk => (hc k hk).ext (Ext.below HQ_wq.out.2)⟩)
 clear HV
 replace y0 := (cell_of_heap HQ_wq.out.1 _).trans y0
 replace y1 := (cell_of_heap HQ_wq.out.1 _).trans y1
 replace y2 := (cell_of_heap HQ_wq.out.1 _).trans y2
 replace y3 := (cell_of_heap HQ_wq.out.1 _).trans y3
 replace y4 := (cell_of_heap HQ_wq.out.1 _).trans y4
 replace hp := (cell_of_heap HQ_wq.out.1 _).trans hp
 by_cases hk0 : xk = 0
 ·have e0 : (xk == 0) = true := by simpa using hk0
  have HR2 : Hid (fits c ⟨xa, xk, (j : Int), xt, xv⟩ = (decide (0 <= xt /\ xt < ((c.parts.getD j ⟨0, [], []⟩).tasks.length : Int)) && demP xv)) := Lib.hid (by rw [HR.out, if_pos hk0])
  clear hk0 HR
  have hj : j < c.parts.length := by rw [<- HN.out]; exact hjn
  obtain ⟨b, off, rfl, hcell⟩ := HV2.out (by intro h; rw [h] at hj; simp at hj)
  obtain ⟨-, tv, cv, z1, z2, z3, -⟩ := hcell j hj
  obtain ⟨ta, tc, rfl, -⟩ := z3
  obtain ⟨m, hm⟩ : ∃ m, m = c.parts[j].tasks.length := ⟨_, rfl⟩
  rw [<- hm] at z1
  have HR3 : Hid (fits c ⟨xa, xk, (j : Int), xt, xv⟩ = (decide (0 <= xt /\ xt < (m : Int)) && demP xv)) := Lib.hid (by rw [HR2.out, List.getD_eq_getElem?_getD, List.getElem?_eq_getElem hj, hm]; rfl)
  have hjn' : (j : Int) < (n : Int) := by omega
  clear hcell z2 hm HR2 hj
  by_cases t0 : xt >= 0
  rotate_left 1
  ·have q0 : decide (xt >= 0) = false := decide_eq_false t0
   have HR4 : Hid (fits c ⟨xa, xk, (j : Int), xt, xv⟩ = false) := Lib.hid (by rw [HR3.out, decide_eq_false (by omega), Bool.false_and])
   clear t0
   go_wp2_with fail
   go_quiet (first | (go_at_call 35; exact Calls.quiet_of_same (clock_any _ _)) | (go_at_call 101; exact Calls.quiet_of_same (demandMay_any _ _)) | (go_at_call 102; exact Calls.quiet_of_same (wordMay_any _ _)))
   go_wp2_with fail
   go_ret
   exact ⟨ret_bool HR4.out.symm, drew_two HDQ.out⟩
  have q0 : decide (xt >= 0) = true := decide_eq_true t0
  by_cases t1 : xt < (m : Int)
  rotate_left 1
  ·have q1 : decide (xt < (m : Int)) = false := decide_eq_false t1
   have HR4 : Hid (fits c ⟨xa, xk, (j : Int), xt, xv⟩ = false) := Lib.hid (by rw [HR3.out, decide_eq_false (by omega), Bool.false_and])
   clear t0 t1
   go_wp2_with fail
   go_quiet (first | (go_at_call 35; exact Calls.quiet_of_same (clock_any _ _)) | (go_at_call 101; exact Calls.quiet_of_same (demandMay_any _ _)) | (go_at_call 102; exact Calls.quiet_of_same (wordMay_any _ _)))
   go_wp2_with fail
   go_ret
   exact ⟨ret_bool HR4.out.symm, drew_two HDQ.out⟩
  have q1 : decide (xt < (m : Int)) = true := decide_eq_true t1
  have HR5 : Hid (fits c ⟨xa, xk, (j : Int), xt, xv⟩ = decide (1 <= xv /\ xv <= 65535)) := Lib.hid (by rw [HR3.out, decide_eq_true ⟨by omega, by omega⟩, Bool.true_and]; rfl)
  clear t0 t1
  by_cases dm : 1 <= xv /\ xv <= 65535
  ·have q2 : decide (1 <= xv /\ xv <= 65535) = true := decide_eq_true dm
   have HR4 : Hid (fits c ⟨xa, xk, (j : Int), xt, xv⟩ = true) := Lib.hid (by rw [HR5.out, q2])
   clear dm
   go_wp2_with fail
   go_quiet (first | (go_at_call 35; exact Calls.quiet_of_same (clock_any _ _)) | (go_at_call 101; exact Calls.quiet_of_same (demandMay_any _ _)))
   go_wp2_with fail
   go_ret
   exact ⟨ret_bool HR4.out.symm, drew_two HDQ.out⟩
  ·have q2 : decide (1 <= xv /\ xv <= 65535) = false := decide_eq_false dm
   have HR4 : Hid (fits c ⟨xa, xk, (j : Int), xt, xv⟩ = false) := Lib.hid (by rw [HR5.out, q2])
   clear dm
   go_wp2_with fail
   go_quiet (first | (go_at_call 35; exact Calls.quiet_of_same (clock_any _ _)) | (go_at_call 101; exact Calls.quiet_of_same (demandMay_any _ _)))
   go_wp2_with fail
   go_ret
   exact ⟨ret_bool HR4.out.symm, drew_two HDQ.out⟩
 have e0 : (xk == 0) = false := by simpa using hk0
 by_cases hk1 : xk = 1
 ·have e1 : (xk == 1) = true := by simpa using hk1
  have HR3 : Hid (fits c ⟨xa, xk, (j : Int), xt, xv⟩ = (decide (xt = 0) && word xv)) := Lib.hid (by rw [HR.out, if_neg hk0, if_pos hk1])
  clear hk0 hk1 HR
  by_cases t0 : xt = 0
  ·have q0 : (xt == 0) = true := by simpa using t0
   have HR4 : Hid (fits c ⟨xa, xk, (j : Int), xt, xv⟩ = decide (0 <= xv /\ xv < 4294967296)) := Lib.hid (by rw [HR3.out, decide_eq_true t0, Bool.true_and]; rfl)
   clear t0
   go_wp2_with fail
   refine (wordMay_any xv _).mono ?_
   rintro e w' ⟨rfl, hww⟩
   subst w'
   go_wp2_with fail
   go_ret
   exact ⟨ret_bool (by rw [HR4.out]; first | rfl | simp), HDQ.out⟩
  ·have q0 : (xt == 0) = false := by simpa using t0
   have HR4 : Hid (fits c ⟨xa, xk, (j : Int), xt, xv⟩ = false) := Lib.hid (by rw [HR3.out, decide_eq_false t0, Bool.false_and])
   clear t0
   go_wp2_with fail
   go_ret
   exact ⟨ret_bool HR4.out.symm, HDQ.out⟩
 ·have e1 : (xk == 1) = false := by simpa using hk1
  have HR4 : Hid (fits c ⟨xa, xk, (j : Int), xt, xv⟩ = false) := Lib.hid (by rw [HR.out, if_neg hk0, if_neg hk1])
  clear hk0 hk1
  go_wp2_with fail
  go_ret
  exact ⟨ret_bool HR4.out.symm, HDQ.out⟩
end Go.Proofs.YtooeeiiiflfckaaGreat
/- package kernel: outside. -/
namespace Go.Proofs.YtooeeiiiflfckaaGreat
open Go.RowKit
def OuV (Y : KLay) (i ga : Nat) (wq vl : Int) (dr : Bool) (er : Int) (a : Nat) (v : Value) : Prop := match a with
 | 0 => v = .pointer (some ⟨Y.kb, 0, none⟩)
 | 1 => v = .pointer (some ⟨Y.kb, 0, none⟩)
 | 2 => v = .pointer (some ⟨Y.kb, 15, none⟩)
 | 3 => v = .pointer (some ⟨Y.pb, 0, none⟩)
 | 4 => v = .int .i64 i
 | 5 => v = .pointer (some ⟨ga, 1, none⟩)
 | 6 => v = .int .i64 wq
 | 7 => v = .pointer (some ⟨ga, 3, none⟩)
 | 8 => v = .int .i64 vl
 | 9 => v = .tuple #[.bool dr, .int .i64 er]
 | 10 => v = .tuple #[.bool dr, .int .i64 er]
 | 11 => v = .bool dr
 | 12 => v = .int .i64 er
 | 13 => v = .bool dr
 | 14 => v = .int .i64 er
 | _ => True
def OvV (Y : KLay) (g4 b off no oc ga j : Nat) (tx : Int) (a : Nat) (v : Value) : Prop := match a with
 | 0 => v = .slice (some ⟨g4, 0, none⟩) 1 1
 | 1 => v = .pointer (some ⟨Y.kb, 0, none⟩)
 | 2 => v = .pointer (some ⟨Y.kb, 0, none⟩)
 | 3 => v = .pointer (some ⟨Y.kb, 9, none⟩)
 | 4 => v = .pointer (some ⟨Y.kb, 13, none⟩)
 | 5 => v = .slice (some ⟨b, off, none⟩) no oc
 | 6 => v = .pointer (some ⟨ga, 1, none⟩)
 | 7 => v = .int .i64 (j : Int)
 | 8 => v = .pointer (some ⟨b, off + j * 4, none⟩)
 | 9 => v = .pointer (some ⟨b, off + j * 4 + 2, none⟩)
 | 10 => v = .int .i64 tx
 | 11 => v = .pointer (some ⟨ga, 1, none⟩)
 | 12 => v = .int .i64 (j : Int)
 | 13 => v = .agg #[.int .i64 9, .int .i64 tx, .int .i64 (j : Int), .int .i64 0]
 | _ => True
theorem Moves.at {G G' : Nat -> Prop} {w w' : World} {g : Nat} {o : Obj} (h : Moves G G' w w') (hg : w.heap[g]? = some o) (hn : ¬ G g) : w'.heap[g]? = some o /\ ¬ G' g :=
 ⟨(h.still (lt_of_block hg) hn).1.trans hg, (h.still (lt_of_block hg) hn).2⟩
theorem Moves.row {G G' : Nat -> Prop} {w W W' : World} {base : Nat} (h : Moves G G' w W) (hb : Below base W W') (h1 : w.heap.size <= base) (h2 : base <= W.heap.size) : Moves G G' w W' :=
 ⟨⟨hb.os.trans h.keep.os, hb.tape.trans h.keep.tape, hb.output.trans h.keep.output, Nat.le_trans h.keep.size hb.size, fun k hk hg => (hb.block k (Nat.lt_of_lt_of_le hk h1)).trans (h.keep.block k hk hg)⟩, h.own⟩
theorem KAt.row' {W W' : World} {Y : KLay} {Ks : KSt} {G : Nat -> Prop} {base : Nat} (h : KAt W Y Ks G) (hb : Below base W W') (hG : ∀ k, G k -> k < base) : KAt W' Y Ks G := h.far (fun k hk => hb.block k (hG k hk))
def tookK (Ks : KSt) (i : Nat) (b : Bool) : KSt := if b = true then Ks.setSeat i { Ks.seat i with inp := (Ks.seat i).inp.tail } else Ks
def gotK (Ks : KSt) (i : Nat) (gt : Int) : KSt := if 0 <= gt then { Ks with ports := tSt Ks.ports i gt } else Ks
theorem tookK_facts (Ks : KSt) (i : Nat) (b : Bool) : (tookK Ks i b).seats.length = Ks.seats.length /\ (tookK Ks i b).cfg = Ks.cfg /\ (tookK Ks i b).ports = Ks.ports := by
 unfold tookK
 split
 ·exact ⟨seats_set _ _ _, rfl, rfl⟩
 ·exact ⟨rfl, rfl, rfl⟩
theorem gotK_facts (Ks : KSt) (i : Nat) (gt : Int) : (gotK Ks i gt).seats.length = Ks.seats.length /\ (gotK Ks i gt).cfg = Ks.cfg /\ (gotK Ks i gt).ports.length = Ks.ports.length := by
 unfold gotK
 split
 ·refine ⟨rfl, rfl, ?_⟩
  have := congrArg List.length (tSt_fst Ks.ports i gt)
  simpa using this
 ·exact ⟨rfl, rfl, rfl⟩
set_option maxRecDepth 100000 in
set_option maxHeartbeats 8000000 in
theorem koutside_any (Y : KLay) (Ks : KSt) (G : Nat -> Prop) (m : Int) (w : World) (h : KAt w Y Ks G) (hk : KOk Ks m) (i : Nat) (hi : i < Ks.seats.length) (f : Eff) :
  Calls Tryz.prog 81 #[.pointer (some ⟨Y.kb, 0, none⟩), .int .i64 i, effV f] w fun e w' => ∃ a n c, e = .returned (.slice a n c) /\ ∃ G', KAt w' Y (outsideK Ks i f).1 G' /\ Moves G G' w w' /\ EvRow w' w.heap.size (.slice a n c) (outsideK Ks i f).2 /\ Off (.slice a n c) G' := by
 obtain ⟨tk, wq, gt, vl, fl⟩ := f
 have HO : Hid (outsideK Ks i ⟨tk, wq, gt, vl, fl⟩ = if wq < 0 then (gotK (tookK Ks i tk) i gt, []) else ({ gotK (tookK Ks i tk) i gt with ports := wSt (gotK (tookK Ks i tk) i gt).ports i wq vl }, [⟨8, i, wq, vl⟩] ++ (if wDrop (gotK (tookK Ks i tk) i gt).ports i wq vl = true then [⟨9, ((gotK (tookK Ks i tk) i gt).cfg.ports.getD wq.toNat ⟨0, 0, 0, 0⟩).to_, wq, 0⟩] else []))) := Lib.hid rfl
 unfold effV
 simp only
 obtain ⟨wa, ga, hw_wa, hg_ga, hb_wa, hk_ga, hs_wa⟩ := alloc_all w (.cells #[.bool tk, .int .i64 wq, .int .i64 gt, .int .i64 vl, .bool fl] 180)
 have hA := h.below hb_wa
 have hgn : ¬ G ga := fun q => by have := h.lt q; omega
 have HA := Lib.hid hA
 have HM := Lib.hid (Moves.of_below (G := G) hb_wa)
 have HKA := Lib.hid (And.intro hk_ga hgn)
 have x0 := BlockIs.of hk_ga 0 (.bool tk) rfl
 have kb14 := hA.cell 14 Y.sv rfl
 obtain ⟨sa, sc, hsv, hse⟩ := hA.seats
 obtain ⟨sb, hsb, y0⟩ := hse i hi
 subst hsb
 have y1 := hA.ringPtr hi
 unfold ptrV at y0
 obtain ⟨n, hn⟩ : ∃ n, n = Ks.seats.length := ⟨_, rfl⟩
 rw [<- hn] at hsv
 rw [hsv] at kb14
 have hin : i < n := by rw [hn]; exact hi
 have hin2 : (i : Int) < (n : Int) := by omega
 have HI := Lib.hid hi
 have HK := Lib.hid hk
 clear h hA hgn hk_ga hb_wa hse hsv hn hi hk
 go_enter Tryz.func81, Tryz.ntmps81
 go_upto_region 1 with (fail)
 rw [<- hw_wa]
 (try rw [<- hg_ga])
 clear hw_wa hg_ga hs_wa
 go_upto_if 11 with (fail)
 go_cut [6] (fun s wx => s = .slice none 0 0 /\ ∃ G1, Hid (KAt wx Y (tookK Ks i tk) G1) /\ Hid (Moves G G1 w wx) /\ Hid (wx.heap[ga]? = some (.cells #[.bool tk, .int .i64 wq, .int .i64 gt, .int .i64 vl, .bool fl] 180 (0, 0)) /\ ¬ G1 ga))
 case first =>
  cases tk
  ·go_wp2_with fail
   go_meet
   exact ⟨rfl, G, HA, HM, HKA⟩
  ·go_wp2_with fail
   refine (k_pop Y Ks G i _ HA.out HI.out).mono ?_
   rintro e w1 ⟨rfl, G1, g1, g2⟩
   have HA1 := Lib.hid g1
   have HM1 := Lib.hid (HM.out.trans g2)
   have HK1 := Lib.hid (g2.at HKA.out.1 HKA.out.2)
   clear g1 g2
   go_wp2_with fail
   go_meet
   exact ⟨rfl, G1, HA1, HM1, HK1⟩
 case rest =>
  obtain ⟨rfl, G1, HA1, HM1, HK1⟩ := hcut
  clear x0 kb14 y0 y1 HA HM HKA
  have HF1 := Lib.hid (tookK_facts Ks i tk)
  obtain ⟨K1, hK1⟩ : ∃ K1, K1 = tookK Ks i tk := ⟨_, rfl⟩
  rw [<- hK1] at HA1 HO HF1
  clear hK1
  have x2 := BlockIs.of HK1.out.1 2 (.int .i64 gt) rfl
  have kb15 := HA1.out.cell 15 (.pointer (some ⟨Y.pb, 0, none⟩)) rfl
  go_upto_if 25 with (fail)
  go_cut [6] (fun s wx => s = .slice none 0 0 /\ ∃ G2, Hid (KAt wx Y (gotK K1 i gt) G2) /\ Hid (Moves G G2 w wx) /\ Hid (wx.heap[ga]? = some (.cells #[.bool tk, .int .i64 wq, .int .i64 gt, .int .i64 vl, .bool fl] 180 (0, 0)) /\ ¬ G2 ga))
  case first =>
   by_cases h0 : 0 <= gt
   ·have d0 : decide (0 <= gt) = true := decide_eq_true h0
    rw [d0]
    have hgk : gotK K1 i gt = { K1 with ports := tSt K1.ports i gt } := by unfold gotK; rw [if_pos h0]
    have HGK := Lib.hid hgk
    clear h0 hgk
    go_wp2_with fail
    refine region_tail 7 (by kernel_rfl) (by kernel_rfl) ?_
    intro wy hy hby
    have z2 := (cell_of_heap hy _).trans x2
    have z15 := (cell_of_heap hy _).trans kb15
    have HAy := Lib.hid (HA1.out.below hby)
    have HMy := Lib.hid (HM1.out.trans (Moves.of_below hby))
    have HKy := Lib.hid (And.intro (keep_at HK1.out.1 hby) HK1.out.2)
    clear hy hby x2 kb15
    simp only [List.take_succ_cons, List.take_zero, List.drop_succ_cons, List.drop_zero]
    repeat still_step
    refine wpStill_nil ?_
    go_wp2_with fail
    refine (k_take Y K1 G1 i gt _ HAy.out).mono ?_
    rintro e w2 ⟨rfl, G2, g1, g2⟩
    have HA2 := Lib.hid g1
    have HM2 := Lib.hid (HMy.out.trans g2)
    have HK2 := Lib.hid (g2.at HKy.out.1 HKy.out.2)
    clear g1 g2
    go_wp2_with fail
    go_meet
    exact ⟨rfl, G2, by rw [HGK.out]; exact HA2, HM2, HK2⟩
   ·have d0 : decide (0 <= gt) = false := decide_eq_false h0
    rw [d0]
    have hgk : gotK K1 i gt = K1 := by unfold gotK; rw [if_neg h0]
    have HGK := Lib.hid hgk
    clear h0 hgk
    go_wp2_with fail
    go_meet
    exact ⟨rfl, G1, by rw [HGK.out]; exact HA1, HM1, HK1⟩
  case rest =>
   obtain ⟨rfl, G2, HA2, HM2, HK2⟩ := hcut
   clear x2 kb15 HA1 HM1 HK1
   have HF2 := Lib.hid (gotK_facts K1 i gt)
   obtain ⟨K2, hK2⟩ : ∃ K2, K2 = gotK K1 i gt := ⟨_, rfl⟩
   rw [<- hK2] at HA2 HO HF2
   clear hK2
   have x1 := BlockIs.of HK2.out.1 1 (.int .i64 wq) rfl
   have x3 := BlockIs.of HK2.out.1 3 (.int .i64 vl) rfl
   have kb15 := HA2.out.cell 15 (.pointer (some ⟨Y.pb, 0, none⟩)) rfl
   by_cases h0 : wq < 0
   ·have d0 : decide (wq < 0) = true := decide_eq_true h0
    have HE := Lib.hid (HO.out.trans (by rw [if_pos h0]))
    clear h0
    go_wp2_with fail
    go_ret
    exact ⟨none, 0, 0, rfl, G2, by rw [HE.out]; exact HA2.out, HM2.out, by rw [HE.out]; exact World.ownsRow_nil _ _ _ _, fun g hg => by cases hg⟩
   ·have d0 : decide (wq < 0) = false := decide_eq_false h0
    have HE := Lib.hid (HO.out.trans (by rw [if_neg h0]))
    have HW0 := Lib.hid h0
    clear h0
    obtain ⟨dr, hdr⟩ : ∃ dr, dr = wDrop K2.ports i wq vl := ⟨_, rfl⟩
    obtain ⟨er, her⟩ : ∃ er, er = wErr K2.ports i wq vl := ⟨_, rfl⟩
    rw [<- hdr] at HE
    have HDR := Lib.hid hdr
    have HER := Lib.hid her
    clear hdr her
    go_wp2_with fail
    refine region_inv0 rfl (by kernel_rfl) (PInv (OuV Y i ga wq vl dr er) 9 (fun W => Below wc.heap.size wc W) (fun W => ∃ G3, KAt W Y { K2 with ports := wSt K2.ports i wq vl } G3 /\ Moves G2 G3 wc W)) (fun vs h0 => ⟨(fun i h => by cases h), (fun _ => below_drew (Below.refl _ _)), (fun h => by cases h)⟩) ?_ ?_
    ·simp (config := { maxSteps := 4000000 }) only [List.map, putAll, Act.put, InvE, List.setIfInBounds_toArray, List.set_cons_succ, List.set_cons_zero, Nat.reduceAdd]
     refine ⟨?_, ?_, ?_, ?_, ?_, ?_, ?_, ?_, ?_, ?_, ?_, ?_, ?_, ?_, ?_, trivial⟩
     all_goals
      intro L vs W hI hi hn hcl K hK
      rw [if_pos (by simp [Region.wanted])]
     ·have HK := Lib.hid (fun v h => hK v W ⟨pv_upd hI.pv h, hI.s0, hI.s1⟩)
      clear hK hI hn hcl hi
      go_simp
      exact HK.out _ rfl
     ·have r0 : vs 0 = _ := hI.pv 0 (hn 0 rfl)
      simp only [r0] at hK |-
      have HK := Lib.hid (fun v h => hK v W ⟨pv_upd hI.pv h, hI.s0, hI.s1⟩)
      clear hK hI hn hcl hi
      go_simp
      exact HK.out _ rfl
     ·have r1 : vs 1 = _ := hI.pv 1 (hn 1 rfl)
      simp only [r1] at hK |-
      have HK := Lib.hid (fun v h => hK v W ⟨pv_upd hI.pv h, hI.s0, hI.s1⟩)
      clear hK hI hn hcl hi
      go_simp
      exact HK.out _ rfl
     ·have r2 : vs 2 = _ := hI.pv 2 (hn 2 rfl)
      have hLn : L 9 = false := by
       cases h : L 9
       ·rfl
       ·exact absurd (hcl 9 _ rfl h 3 rfl) (Bool.eq_false_iff.1 hi)
      have HS := Lib.hid (hI.s0 hLn)
      have b3_0 := Ext.below HS.out _ _ kb15
      simp only [r2] at hK |-
      have HK := Lib.hid (fun v h => hK v W ⟨pv_upd hI.pv h, hI.s0, hI.s1⟩)
      clear hK hI hn hcl hi hLn
      go_simp
      exact HK.out _ rfl
     ·have HK := Lib.hid (fun v h => hK v W ⟨pv_upd hI.pv h, hI.s0, hI.s1⟩)
      clear hK hI hn hcl hi
      go_simp
      exact HK.out _ rfl
     ·have HK := Lib.hid (fun v h => hK v W ⟨pv_upd hI.pv h, hI.s0, hI.s1⟩)
      clear hK hI hn hcl hi
      go_simp
      exact HK.out _ rfl
     ·have r5 : vs 5 = _ := hI.pv 5 (hn 5 rfl)
      have hLn : L 9 = false := by
       cases h : L 9
       ·rfl
       ·exact absurd (hcl 9 _ rfl h 6 rfl) (Bool.eq_false_iff.1 hi)
      have HS := Lib.hid (hI.s0 hLn)
      have b6_0 := Ext.below HS.out _ _ x1
      simp only [r5] at hK |-
      have HK := Lib.hid (fun v h => hK v W ⟨pv_upd hI.pv h, hI.s0, hI.s1⟩)
      clear hK hI hn hcl hi hLn
      go_simp
      exact HK.out _ rfl
     ·have HK := Lib.hid (fun v h => hK v W ⟨pv_upd hI.pv h, hI.s0, hI.s1⟩)
      clear hK hI hn hcl hi
      go_simp
      exact HK.out _ rfl
     ·have r7 : vs 7 = _ := hI.pv 7 (hn 7 rfl)
      have hLn : L 9 = false := by
       cases h : L 9
       ·rfl
       ·exact absurd (hcl 9 _ rfl h 8 rfl) (Bool.eq_false_iff.1 hi)
      have HS := Lib.hid (hI.s0 hLn)
      have b8_0 := Ext.below HS.out _ _ x3
      simp only [r7] at hK |-
      have HK := Lib.hid (fun v h => hK v W ⟨pv_upd hI.pv h, hI.s0, hI.s1⟩)
      clear hK hI hn hcl hi hLn
      go_simp
      exact HK.out _ rfl
     ·have r3 : vs 3 = _ := hI.pv 3 (hn 3 rfl)
      have r4 : vs 4 = _ := hI.pv 4 (hn 4 rfl)
      have r6 : vs 6 = _ := hI.pv 6 (hn 6 rfl)
      have r8 : vs 8 = _ := hI.pv 8 (hn 8 rfl)
      simp only [r3, r4, r6, r8] at hK |-
      have hs := hI.s0 hi
      have HAw := Lib.hid (HA2.out.below hs)
      have HSW := Lib.hid hs
      have HP := Lib.hid hI.pv
      have HK := Lib.hid hK
      clear hK hI hn hcl hi hs
      go_simp
      refine (k_write Y K2 G2 i wq vl W HAw.out).mono ?_
      rw [<- HDR.out, <- HER.out]
      rintro e w5 ⟨rfl, G3, g1, g2⟩
      exact HK.out _ w5 ⟨pv_upd HP.out rfl, fun h => by simp [updB] at h, fun _ => ⟨G3, g1, (Moves.of_below HSW.out).trans g2⟩⟩
     ·have r9 : vs 9 = _ := hI.pv 9 (hn 9 rfl)
      simp only [r9] at hK |-
      have HK := Lib.hid (fun v h => hK v W ⟨pv_upd hI.pv h, hI.s0, hI.s1⟩)
      clear hK hI hn hcl hi
      go_simp
      exact HK.out _ rfl
     ·have r10 : vs 10 = _ := hI.pv 10 (hn 10 rfl)
      simp only [r10] at hK |-
      have HK := Lib.hid (fun v h => hK v W ⟨pv_upd hI.pv h, hI.s0, hI.s1⟩)
      clear hK hI hn hcl hi
      go_simp
      exact HK.out _ rfl
     ·have r10 : vs 10 = _ := hI.pv 10 (hn 10 rfl)
      simp only [r10] at hK |-
      have HK := Lib.hid (fun v h => hK v W ⟨pv_upd hI.pv h, hI.s0, hI.s1⟩)
      clear hK hI hn hcl hi
      go_simp
      exact HK.out _ rfl
     ·have r11 : vs 11 = _ := hI.pv 11 (hn 11 rfl)
      simp only [r11] at hK |-
      have HK := Lib.hid (fun v h => hK v W ⟨pv_upd hI.pv h, hI.s0, hI.s1⟩)
      clear hK hI hn hcl hi
      go_simp
      exact HK.out _ rfl
     ·have r12 : vs 12 = _ := hI.pv 12 (hn 12 rfl)
      simp only [r12] at hK |-
      have HK := Lib.hid (fun v h => hK v W ⟨pv_upd hI.pv h, hI.s0, hI.s1⟩)
      clear hK hI hn hcl hi
      go_simp
      exact HK.out _ rfl
    ·intro vs W hI
     simp only [List.map, putAll, Act.put, List.setIfInBounds_toArray, List.set_cons_succ, List.set_cons_zero, Nat.reduceAdd]
     have hs1 := hI.s1 (by simp)
     have r0 : vs 0 = _ := hI.pv 0 (by simp)
     have r1 : vs 1 = _ := hI.pv 1 (by simp)
     have r2 : vs 2 = _ := hI.pv 2 (by simp)
     have r3 : vs 3 = _ := hI.pv 3 (by simp)
     have r4 : vs 4 = _ := hI.pv 4 (by simp)
     have r5 : vs 5 = _ := hI.pv 5 (by simp)
     have r6 : vs 6 = _ := hI.pv 6 (by simp)
     have r7 : vs 7 = _ := hI.pv 7 (by simp)
     have r8 : vs 8 = _ := hI.pv 8 (by simp)
     have r9 : vs 9 = _ := hI.pv 9 (by simp)
     have r10 : vs 10 = _ := hI.pv 10 (by simp)
     have r11 : vs 11 = _ := hI.pv 11 (by simp)
     have r12 : vs 12 = _ := hI.pv 12 (by simp)
     have r13 : vs 13 = _ := hI.pv 13 (by simp)
     have r14 : vs 14 = _ := hI.pv 14 (by simp)
     simp only [r0, r1, r2, r3, r4, r5, r6, r7, r8, r9, r10, r11, r12, r13, r14]
     clear hI r0 r1 r2 r3 r4 r5 r6 r7 r8 r9 r10 r11 r12 r13 r14
     obtain ⟨G3, g1, g2⟩ := hs1
     have HA3 := Lib.hid g1
     have HM3 := Lib.hid (HM2.out.trans g2)
     have HK3 := Lib.hid (g2.at HK2.out.1 HK2.out.2)
     obtain ⟨w3, hw3⟩ : ∃ w3, w3 = W := ⟨_, rfl⟩
     subst hw3
     have q1 := BlockIs.of HK3.out.1 1 (.int .i64 wq) rfl
     have q3 := BlockIs.of HK3.out.1 3 (.int .i64 vl) rfl
     have ho : EvRow (w3.alloc (.cells #[.int .i64 8, .int .i64 i, .int .i64 wq, .int .i64 vl] 45)) w3.heap.size (.slice (some ⟨w3.heap.size, 0, none⟩) 1 1) [⟨8, i, wq, vl⟩] := own_one w3 45 4 [.int .i64 8, .int .i64 i, .int .i64 wq, .int .i64 vl] rfl
     obtain ⟨w4, g4, hw_w4, hg_g4, hb_w4, hk_g4, hs_w4⟩ := alloc_all w3 (.cells #[.int .i64 8, .int .i64 i, .int .i64 wq, .int .i64 vl] 45)
     rw [<- hw_w4, <- hg_g4] at ho
     have HO4 := Lib.hid ho
     have HB4 := Lib.hid hb_w4
     have HG4 := Lib.hid hg_g4
     have HA4 := Lib.hid (HA3.out.below hb_w4)
     have HM4 := Lib.hid (HM3.out.trans (Moves.of_below hb_w4))
     have HK4 := Lib.hid (keep_at HK3.out.1 hb_w4)
     have HOF := Lib.hid (show Off (.slice (some ⟨g4, 0, none⟩) 1 1) G3 from fun g hg hG => by
      have hg2 : g4 = g := by simpa [Value.ownBlock] using hg
      have r1 := HA3.out.lt hG
      have r2 := HG4.out
      omega)
     clear g1 g2 ho hb_w4 hk_g4
     go_upto_region 9 with (fail)
     rw [<- hw_w4]
     (try rw [<- hg_g4])
     clear hw_w4 hg_g4 hs_w4 q1 q3
     cases dr
     ·have HE2 := Lib.hid (HE.out.trans (by rw [if_neg (by simp), List.append_nil]))
      go_wp2_with fail
      go_ret
      exact ⟨_, _, _, rfl, G3, by rw [HE2.out]; exact HA4.out, HM4.out, by rw [HE2.out]; exact own_low HO4.out (by have := HM3.out.size; have := HG4.out; omega), HOF.out⟩
     ·have HE2 := Lib.hid (HE.out.trans (by rw [if_pos rfl]))
      have hpo := HA3.out.cell 13 Y.ov rfl
      have hcp := HA3.out.conf.1.ports
      obtain ⟨oa, oc, hov, -, -, -, hpc⟩ := id hcp
      have hwr : wErr K2.ports i wq vl = 0 := by
       have := HDR.out
       unfold wDrop at this
       simp only [Bool.true_eq, Bool.and_eq_true, decide_eq_true_eq] at this
       exact this.1
      have hw2 : wq < (K2.ports.length : Int) := by
       unfold wErr at hwr
       split at hwr
       ·omega
       ·omega
      have hpl : K2.ports.length = K2.cfg.ports.length := by
       have f1 := HF1.out
       have f2 := HF2.out
       have f3 := HK.out.ports8.2
       rw [f2.2.2, f2.2.1, f1.2.2, f1.2.1]
       exact f3
      obtain ⟨j, rfl⟩ : ∃ j : Nat, wq = j := ⟨wq.toNat, by have := HW0.out; omega⟩
      have hj : j < K2.cfg.ports.length := by omega
      obtain ⟨b, off, rfl, hc⟩ := hpc (by intro q; have : K2.cfg.ports = [] := q; rw [this] at hj; simp at hj)
      obtain ⟨-, -, p2, -⟩ := hc j hj
      unfold IntAt at p2
      obtain ⟨no, hno⟩ : ∃ no, no = K2.cfg.ports.length := ⟨_, rfl⟩
      have hov' : Y.ov = .slice (some ⟨b, off, none⟩) no oc := by rw [hno]; exact hov
      rw [hov'] at hpo
      obtain ⟨tx, hto⟩ : ∃ tx, tx = (K2.cfg.ports[j]'hj).to_ := ⟨_, rfl⟩
      have p2q : w3.cell? ⟨b, off + j * 4 + 2, none⟩ = some (.int .i64 tx) := by rw [hto]; exact p2
      have HE3 : Hid (outsideK Ks i ⟨tk, (j : Int), gt, vl, fl⟩ = ({ K2 with ports := wSt K2.ports i j vl }, [⟨8, i, j, vl⟩, ⟨9, tx, j, 0⟩])) := Lib.hid (by
       rw [HE2.out, hto, Int.toNat_natCast, List.getD_eq_getElem?_getD, List.getElem?_eq_getElem hj]
       rfl)
      have hjn : (j : Int) < (no : Int) := by omega
      have hjn2 : j < no := by omega
      have q1 := BlockIs.of HK3.out.1 1 (.int .i64 (j : Int)) rfl
      have HOW := Lib.hid (show EvRow w4 w3.heap.size _ _ from by rw [<- HG4.out]; exact HO4.out)
      clear hcp hpc hc p2 hov hov' hwr hw2 hpl hj hto hno
      go_wp2_with fail
      refine region_inv0 rfl (by kernel_rfl) (AppInv w3 45 4 (.slice (some ⟨g4, 0, none⟩) 1 1) 1 ((evCells ⟨8, i, j, vl⟩)) (evCells ⟨9, tx, j, 0⟩) (OvV Y g4 b off no oc ga j tx) 14 15 16) (fun vs h0 => ⟨(fun i h => by cases h), below_drew HB4.out, (fun _ => Below.kept HOW.out (below_drew (Below.refl _ _))), (fun _ h => by cases h), (fun h => by cases h), (fun h => by cases h), (fun _ => h0 16 9 rfl)⟩) ?_ ?_
      ·simp (config := { maxSteps := 4000000 }) only [List.map, putAll, Act.put, InvE, List.setIfInBounds_toArray, List.set_cons_succ, List.set_cons_zero, Nat.reduceAdd]
       refine ⟨?_, ?_, ?_, ?_, ?_, ?_, ?_, ?_, ?_, ?_, ?_, ?_, ?_, ?_, ?_, ?_, ?_, trivial⟩
       all_goals
        intro L vs W hI hi hn hcl K hK
        rw [if_pos (by simp [Region.wanted])]
       ·have hO : L 16 = false := by
         cases h : L 16
         ·rfl
         ·exact absurd (hcl 15 _ rfl (hcl 16 _ rfl h 15 rfl) 0 rfl) (Bool.eq_false_iff.1 hi)
        have e21 := hI.old hO
        simp only [e21] at hK |-
        clear e21 hO
        have HK := Lib.hid (fun v h => hK v W ⟨pv_upd hI.pv h, hI.below, hI.row, hI.new, hI.res, hI.out, hI.old⟩)
        clear hK hI hn hcl hi
        go_simp
        exact HK.out _ rfl
       ·have HK := Lib.hid (fun v h => hK v W ⟨pv_upd hI.pv h, hI.below, hI.row, hI.new, hI.res, hI.out, hI.old⟩)
        clear hK hI hn hcl hi
        go_simp
        exact HK.out _ rfl
       ·have r1 : vs 1 = _ := hI.pv 1 (hn 1 rfl)
        simp only [r1] at hK |-
        have HK := Lib.hid (fun v h => hK v W ⟨pv_upd hI.pv h, hI.below, hI.row, hI.new, hI.res, hI.out, hI.old⟩)
        clear hK hI hn hcl hi
        go_simp
        exact HK.out _ rfl
       ·have r2 : vs 2 = _ := hI.pv 2 (hn 2 rfl)
        simp only [r2] at hK |-
        have HK := Lib.hid (fun v h => hK v W ⟨pv_upd hI.pv h, hI.below, hI.row, hI.new, hI.res, hI.out, hI.old⟩)
        clear hK hI hn hcl hi
        go_simp
        exact HK.out _ rfl
       ·have r3 : vs 3 = _ := hI.pv 3 (hn 3 rfl)
        simp only [r3] at hK |-
        have HK := Lib.hid (fun v h => hK v W ⟨pv_upd hI.pv h, hI.below, hI.row, hI.new, hI.res, hI.out, hI.old⟩)
        clear hK hI hn hcl hi
        go_simp
        exact HK.out _ rfl
       ·have r4 : vs 4 = _ := hI.pv 4 (hn 4 rfl)
        have b5_0 := Ext.below hI.below _ _ hpo
        simp only [r4] at hK |-
        have HK := Lib.hid (fun v h => hK v W ⟨pv_upd hI.pv h, hI.below, hI.row, hI.new, hI.res, hI.out, hI.old⟩)
        clear hK hI hn hcl hi
        go_simp
        exact HK.out _ rfl
       ·have HK := Lib.hid (fun v h => hK v W ⟨pv_upd hI.pv h, hI.below, hI.row, hI.new, hI.res, hI.out, hI.old⟩)
        clear hK hI hn hcl hi
        go_simp
        exact HK.out _ rfl
       ·have r6 : vs 6 = _ := hI.pv 6 (hn 6 rfl)
        have b7_0 := Ext.below hI.below _ _ q1
        simp only [r6] at hK |-
        have HK := Lib.hid (fun v h => hK v W ⟨pv_upd hI.pv h, hI.below, hI.row, hI.new, hI.res, hI.out, hI.old⟩)
        clear hK hI hn hcl hi
        go_simp
        exact HK.out _ rfl
       ·have r5 : vs 5 = _ := hI.pv 5 (hn 5 rfl)
        have r7 : vs 7 = _ := hI.pv 7 (hn 7 rfl)
        simp only [r5, r7] at hK |-
        have HK := Lib.hid (fun v h => hK v W ⟨pv_upd hI.pv h, hI.below, hI.row, hI.new, hI.res, hI.out, hI.old⟩)
        clear hK hI hn hcl hi
        go_simp
        exact HK.out _ rfl
       ·have r8 : vs 8 = _ := hI.pv 8 (hn 8 rfl)
        simp only [r8] at hK |-
        have HK := Lib.hid (fun v h => hK v W ⟨pv_upd hI.pv h, hI.below, hI.row, hI.new, hI.res, hI.out, hI.old⟩)
        clear hK hI hn hcl hi
        go_simp
        exact HK.out _ rfl
       ·have r9 : vs 9 = _ := hI.pv 9 (hn 9 rfl)
        have b10_0 := Ext.below hI.below _ _ p2q
        simp only [r9] at hK |-
        have HK := Lib.hid (fun v h => hK v W ⟨pv_upd hI.pv h, hI.below, hI.row, hI.new, hI.res, hI.out, hI.old⟩)
        clear hK hI hn hcl hi
        go_simp
        exact HK.out _ rfl
       ·have HK := Lib.hid (fun v h => hK v W ⟨pv_upd hI.pv h, hI.below, hI.row, hI.new, hI.res, hI.out, hI.old⟩)
        clear hK hI hn hcl hi
        go_simp
        exact HK.out _ rfl
       ·have r11 : vs 11 = _ := hI.pv 11 (hn 11 rfl)
        have b12_0 := Ext.below hI.below _ _ q1
        simp only [r11] at hK |-
        have HK := Lib.hid (fun v h => hK v W ⟨pv_upd hI.pv h, hI.below, hI.row, hI.new, hI.res, hI.out, hI.old⟩)
        clear hK hI hn hcl hi
        go_simp
        exact HK.out _ rfl
       ·have r10 : vs 10 = _ := hI.pv 10 (hn 10 rfl)
        have r12 : vs 12 = _ := hI.pv 12 (hn 12 rfl)
        simp only [r10, r12] at hK |-
        have HK := Lib.hid (fun v h => hK v W ⟨pv_upd hI.pv h, hI.below, hI.row, hI.new, hI.res, hI.out, hI.old⟩)
        clear hK hI hn hcl hi
        go_simp
        exact HK.out _ rfl
       ·have r13 : vs 13 = _ := hI.pv 13 (hn 13 rfl)
        simp only [r13] at hK |-
        have HK := Lib.hid hK
        have HI := Lib.hid hI
        clear hK hI hn hcl hi
        go_simp
        have k1 := HI.out.keep (balloc W (.cells (evCells ⟨9, tx, j, 0⟩).toArray 45))
        exact HK.out _ _ ⟨pv_upd k1.pv trivial, k1.below, k1.row, fun _ _ => ⟨W.heap.size, rfl, blk_new _ _⟩, k1.res, k1.out, k1.old⟩
       ·have r0 : vs 0 = _ := hI.pv 0 (hn 0 rfl)
        have hA : L 15 = false := hi
        have hO : L 16 = false := by
         cases h : L 16
         ·rfl
         ·exact absurd (hcl 16 _ rfl h 15 rfl) (Bool.eq_false_iff.1 hA)
        obtain ⟨g9, e19, hg⟩ := hI.new hA (hn 14 rfl)
        have hr := hI.row hA
        have hsrc : Src W (vs 14) 1 (evCells ⟨9, tx, j, 0⟩) := .inr ⟨⟨g9, 0, none⟩, 1, e19, fun j u hu => by rw [addr_add]; have h := BlockIs.of hg j u (by simpa using hu); simpa using h⟩
        refine wp_onto _ (.tmp 58) (.tmp 72) 39 rfl w3.heap.size 45 _ 4 32 Tryz.underlying39 infoEvent rfl (by decide) (.slice (some ⟨g4, 0, none⟩) 1 1) 1 _ (hI.pv 0 (hn 0 rfl)) hr 1 (evCells ⟨9, tx, j, 0⟩) hsrc rfl (fun u hu => flatEvent.one _ u hu) (by simp only [maxLen]; omega) (by omega) hI.below.size ?_
        intro v' w' ho hg2
        refine hK v' w' ⟨pv_upd hI.pv trivial, hI.below.grown hg2 hI.below.size (fun q hq => (hr.lt q hq).1), fun q => absurd q (by simp [updB]), fun q => absurd q (by simp [updB]), fun _ => ho, fun q => absurd q (Bool.eq_false_iff.1 hO), hI.old⟩
       ·have HK := Lib.hid (fun v h => hK v W ⟨pv_upd hI.pv trivial, hI.below, hI.row, hI.new, hI.res, (fun _ => h), fun q => absurd q (by simp [updB])⟩)
        clear hK hI hn hcl hi
        go_simp
        exact HK.out _ rfl
      ·intro vs W hI
       simp only [List.map, putAll, Act.put, List.setIfInBounds_toArray, List.set_cons_succ, List.set_cons_zero, Nat.reduceAdd]
       have hr := hI.res (by simp)
       have e21 := hI.out (by simp)
       have r0 : vs 0 = _ := hI.pv 0 (by simp)
       have r1 : vs 1 = _ := hI.pv 1 (by simp)
       have r2 : vs 2 = _ := hI.pv 2 (by simp)
       have r3 : vs 3 = _ := hI.pv 3 (by simp)
       have r4 : vs 4 = _ := hI.pv 4 (by simp)
       have r5 : vs 5 = _ := hI.pv 5 (by simp)
       have r6 : vs 6 = _ := hI.pv 6 (by simp)
       have r7 : vs 7 = _ := hI.pv 7 (by simp)
       have r8 : vs 8 = _ := hI.pv 8 (by simp)
       have r9 : vs 9 = _ := hI.pv 9 (by simp)
       have r10 : vs 10 = _ := hI.pv 10 (by simp)
       have r11 : vs 11 = _ := hI.pv 11 (by simp)
       have r12 : vs 12 = _ := hI.pv 12 (by simp)
       have r13 : vs 13 = _ := hI.pv 13 (by simp)
       have HBW := Lib.hid hI.below
       rw [<- e21] at hr
       obtain ⟨ra, rc, e5⟩ := own_shape hr
       have HRW := Lib.hid hr
       simp only [r0, r1, r2, r3, r4, r5, r6, r7, r8, r9, r10, r11, r12, r13, <- e21]
       clear hI hr r0 r1 r2 r3 r4 r5 r6 r7 r8 r9 r10 r11 r12 r13
       have hG : ∀ k, G3 k -> k < w3.heap.size := fun k hk => HA3.out.lt hk
       have HA5 := Lib.hid (HA3.out.row' HBW.out hG)
       have hwg : w.heap.size <= w3.heap.size := HM3.out.size
       have HM5 := Lib.hid (HM3.out.row HBW.out hwg (Nat.le_refl _))
       rw [e5] at HRW
       simp only [e5]
       clear e5 e21
       have HN5 := Lib.hid (show EvRow _ w3.heap.size (.slice ra (1 + 1) rc) ([⟨8, i, j, vl⟩] ++ [⟨9, tx, j, 0⟩]) from EvRow.snoc rfl HRW.out)
       have HOF5 := Lib.hid (show Off (.slice ra (1 + 1) rc) G3 from Off.new HN5.out hG)
       clear hG
       go_wp2_with fail
       go_ret
       exact ⟨_, _, _, rfl, G3, by rw [HE3.out]; exact HA5.out, HM5.out, by rw [HE3.out]; exact own_low HN5.out hwg, HOF5.out⟩
end Go.Proofs.YtooeeiiiflfckaaGreat
/- package kernel: charge. -/
namespace Go.Proofs.YtooeeiiiflfckaaGreat
open Go.RowKit
theorem own_len {w : World} {b : Nat} {e : TypeId} {size n m : Nat} {a : Option Addr} {c : Nat} {xs : List Value} (h : w.ownsRow b e size (.slice a n c) m xs) : n = m := by
 obtain ⟨a', c', q⟩ := own_shape h
 injection q
theorem runEv_le (S : LSt) : (runEv S).length <= 3 := by
 unfold runEv
 split
 ·simp
 ·exact runEvK_le S 3
theorem KAt.app {w W W' : World} {Y : KLay} {Ks : KSt} {G0 G : Nat -> Prop} {o : Obj} {v v' : Value} {b n : Nat} {e : TypeId} {size : Nat} {xs : List Value} (h : KAt W Y Ks G) (hm : Moves G0 G w W) (hv : W.ownsRow b e size v n xs) (hb : w.heap.size <= b) (hf : Off v G) (hg : (W.alloc o).grownBy W' v.ownBlock) (hn : v'.ownBlock = v.ownBlock ∨ v'.ownBlock = some (W.heap.size + 1)) :
  KAt W' Y Ks G /\ Moves G0 G w W' /\ Off v' G := by
 have hs : (W.alloc o).heap.size = W.heap.size + 1 := by simp
 have hal := balloc W o
 have hk : ∀ k, k < W.heap.size -> some k ≠ v.ownBlock -> W'.heap[k]? = W.heap[k]? := fun k hk hne => (hg.block k (by omega) hne).trans (hal.block k hk)
 refine ⟨h.far (fun k hG => hk k (h.lt hG) (fun q => hf k q.symm hG)), ⟨⟨hg.os.trans (hal.os.trans hm.keep.os), hg.tape.trans (hal.tape.trans hm.keep.tape), hg.output.trans (hal.output.trans hm.keep.output), by have := hm.keep.size; have := hg.size; omega, fun k hkw hG => (hk k (Nat.lt_of_lt_of_le hkw hm.keep.size) (fun q => by have := (hv.lt k q.symm).1; omega)).trans (hm.keep.block k hkw hG)⟩, hm.own⟩, fun g hg2 hG => ?_⟩
 rcases hn with q | q
 ·exact hf g (q.symm.trans hg2) hG
 ·rw [q] at hg2
  injection hg2 with hg2
  have := h.lt hG
  omega
set_option maxRecDepth 100000 in
set_option maxHeartbeats 8000000 in
theorem kcharge_any (Y : KLay) (Ks : KSt) (G : Nat -> Prop) (m : Int) (w : World) (h : KAt w Y Ks G) (hk : KOk Ks m) (i : Nat) (hi : i < Ks.seats.length) :
  Calls Tryz.prog 82 #[.pointer (some ⟨Y.kb, 0, none⟩), .pointer (some ⟨Y.sb i, 0, none⟩)] w fun e w' => ∃ a n c, e = .returned (.slice a n c) /\ ∃ G', KAt w' Y (chargeK Ks i).1 G' /\ Moves G G' w w' /\ EvRow w' w.heap.size (.slice a n c) (chargeK Ks i).2 /\ Off (.slice a n c) G' := by
 have HA := Lib.hid h
 have y0 := h.locPtr hi
 have HI := Lib.hid hi
 have HK := Lib.hid hk
 clear h hi hk
 go_enter Tryz.func82, Tryz.ntmps82
 go_wp2_with fail
 refine (k_run Y Ks G i m _ HA.out HI.out (HK.out.loc i HI.out)).mono ?_
 rintro e w1 ⟨ra, rn, rc, rfl, G1, g1, g2, ho, hof⟩
 have HO : Hid (chargeK Ks i = if (runV (Ks.seat i).loc).over = false then (Ks.setSeat i { Ks.seat i with loc := runS (Ks.seat i).loc }, runEv (Ks.seat i).loc) else ({ Ks.setSeat i { Ks.seat i with loc := runS (Ks.seat i).loc } with mode := overM }, runEv (Ks.seat i).loc ++ (if Ks.mode.level = 0 then [turnedE 1] else []))) := Lib.hid rfl
 have hml : (Ks.setSeat i { Ks.seat i with loc := runS (Ks.seat i).loc }).mode = Ks.mode := rfl
 obtain ⟨K1, hK1⟩ : ∃ K1, K1 = Ks.setSeat i { Ks.seat i with loc := runS (Ks.seat i).loc } := ⟨_, rfl⟩
 rw [<- hK1] at g1 HO hml
 rw [<- hml] at HO
 obtain ⟨er, her⟩ : ∃ er, er = runE (Ks.seat i).loc := ⟨_, rfl⟩
 obtain ⟨ev, hev⟩ : ∃ ev, ev = runEv (Ks.seat i).loc := ⟨_, rfl⟩
 obtain ⟨vd, hvd⟩ : ∃ vd, vd = runV (Ks.seat i).loc := ⟨_, rfl⟩
 rw [<- her, <- hvd]
 rw [<- hev, <- hvd] at HO
 rw [<- hev] at ho
 have hlen := own_len ho
 obtain ⟨ov, dn, kl⟩ := vd
 have hevl : ev.length <= 1000000 := by rw [hev]; exact Nat.le_trans (runEv_le _) (by decide)
 obtain rfl : rn = ev.length := hlen
 clear hK1 her hvd hml y0 hev
 unfold vdV
 simp only
 obtain ⟨w2, gv, hw_w2, hg_gv, hb_w2, hk_gv, hs_w2⟩ := alloc_all w1 (.cells #[.bool ov, .bool dn, .bool kl] 230)
 have x0 := BlockIs.of hk_gv 0 (.bool ov) rfl
 have HA2 := Lib.hid (g1.below hb_w2)
 have HM2 := Lib.hid (g2.trans (Moves.of_below hb_w2))
 have HO2 := Lib.hid ((Moves.of_below (G := G1) hb_w2).own_row ho hof)
 clear g1 g2 ho hof hb_w2 hk_gv
 go_upto_region 2 with (fail)
 rw [<- hw_w2]
 (try rw [<- hg_gv])
 clear hw_w2 hg_gv hs_w2
 cases ov
 ·have HE := Lib.hid (HO.out.trans (by rw [if_pos rfl]))
  go_wp2_with fail
  go_ret
  exact ⟨_, _, _, rfl, G1, by rw [HE.out]; exact HA2.out, HM2.out, by rw [HE.out]; exact HO2.out.1, HO2.out.2⟩
 ·have HE0 := Lib.hid (HO.out.trans (by rw [if_neg (by simp)]))
  have kb6 := HA2.out.cell 6 (.int .i64 K1.mode.level) rfl
  by_cases hl : K1.mode.level = 0
  ·have d1 : (K1.mode.level == 0) = true := by simpa using hl
   have HE := Lib.hid (HE0.out.trans (by rw [if_pos hl]))
   clear hl
   go_wp2_with fail
   refine (turned_any 1 _).mono ?_
   rintro e w3 ⟨rfl, hb3⟩
   have HA3 := Lib.hid (HA2.out.below hb3)
   have HM3 := Lib.hid (HM2.out.trans (Moves.of_below hb3))
   have HO3 := Lib.hid ((Moves.of_below (G := G1) hb3).own_row HO2.out.1 HO2.out.2)
   clear hb3 kb6
   rw [show evV (turnedE 1) = .agg #[.int .i64 0, .int .i64 (-1), .int .i64 (-1), .int .i64 1] from rfl]
   go_wp2_with (at_builtin; refine append_elem_at rfl (.tmp 28) (.tmp 30) 39 rfl w.heap.size 45 _ 4 32 Tryz.underlying39 infoEvent rfl (by decide) (.slice ra ev.length rc) _ _ rfl HO3.out.1 (evCells (turnedE 1)) _ rfl rfl rfl rfl (by omega) (by omega) HM3.out.size ?_)
   intro v5 w5 hown hbel hg5 hnb
   have happ := HA3.out.app HM3.out HO3.out.1 (Nat.le_refl _) HO3.out.2 hg5 hnb
   obtain ⟨va, vc, rfl⟩ := own_shape hown
   have HAx := Lib.hid happ.1
   have HMx := Lib.hid happ.2.1
   have HOFx := Lib.hid happ.2.2
   have HOx := Lib.hid (show EvRow w5 w.heap.size (.slice va (ev.length + 1) vc) (ev ++ [turnedE 1]) from EvRow.snoc rfl hown)
   clear hown hbel hg5 hnb happ
   have o6 := HAx.out.cell 6 (.int .i64 K1.mode.level) rfl
   have o7 := HAx.out.cell 7 (.int .i64 K1.mode.quiet) rfl
   have o8 := HAx.out.cell 8 (.bool K1.mode.loud) rfl
   go_wp2_with fail
   refine (modeOver_any K1.mode _).mono ?_
   rintro e w7 ⟨rfl, hb7⟩
   have hA7 := HAx.out.below hb7
   have o6 := hA7.cell 6 (.int .i64 K1.mode.level) rfl
   have o7 := hA7.cell 7 (.int .i64 K1.mode.quiet) rfl
   have o8 := hA7.cell 8 (.bool K1.mode.loud) rfl
   have fz := thaw hA7.kern.1
   obtain ⟨wz, hw_wz⟩ : ∃ wz, wz = setMode w7 Y.kb overM := ⟨_, rfl⟩
   have h1 := setMode_at hA7.kern.1 overM
   have h2 := setMode_grown w7 Y.kb overM
   rw [<- hw_wz] at h1 h2
   unfold setMode overM at hw_wz
   simp only at hw_wz
   obtain ⟨G', g1, g2⟩ := hA7.setKern (K' := { K1 with mode := overM }) h2 rfl rfl rfl h1
   have HG1 := Lib.hid g1
   have HMZ := Lib.hid (HMx.out.trans ((Moves.of_below hb7).trans g2))
   have HOZ := Lib.hid ((((Moves.of_below (G := G1) hb7).trans g2)).own_row HOx.out HOFx.out)
   clear hA7 h1 h2 g1 g2 hb7
   unfold modV overM
   simp only
   go_wp2_with (first | (rw [<- hw_wz]; clear hw_wz) | fail)
   go_ret
   exact ⟨_, _, _, rfl, G', by rw [HE.out]; exact HG1.out, HMZ.out, by rw [HE.out]; exact HOZ.out.1, HOZ.out.2⟩
  ·have d1 : (K1.mode.level == 0) = false := by simpa using hl
   have HE := Lib.hid (HE0.out.trans (by rw [if_neg hl, List.append_nil]))
   clear hl kb6
   have HAx := HA2
   have HMx := HM2
   have HOx := Lib.hid HO2.out.1
   have HOFx := Lib.hid HO2.out.2
   have o6 := HAx.out.cell 6 (.int .i64 K1.mode.level) rfl
   have o7 := HAx.out.cell 7 (.int .i64 K1.mode.quiet) rfl
   have o8 := HAx.out.cell 8 (.bool K1.mode.loud) rfl
   go_wp2_with fail
   refine (modeOver_any K1.mode _).mono ?_
   rintro e w7 ⟨rfl, hb7⟩
   have hA7 := HAx.out.below hb7
   have o6 := hA7.cell 6 (.int .i64 K1.mode.level) rfl
   have o7 := hA7.cell 7 (.int .i64 K1.mode.quiet) rfl
   have o8 := hA7.cell 8 (.bool K1.mode.loud) rfl
   have fz := thaw hA7.kern.1
   obtain ⟨wz, hw_wz⟩ : ∃ wz, wz = setMode w7 Y.kb overM := ⟨_, rfl⟩
   have h1 := setMode_at hA7.kern.1 overM
   have h2 := setMode_grown w7 Y.kb overM
   rw [<- hw_wz] at h1 h2
   unfold setMode overM at hw_wz
   simp only at hw_wz
   obtain ⟨G', g1, g2⟩ := hA7.setKern (K' := { K1 with mode := overM }) h2 rfl rfl rfl h1
   have HG1 := Lib.hid g1
   have HMZ := Lib.hid (HMx.out.trans ((Moves.of_below hb7).trans g2))
   have HOZ := Lib.hid ((((Moves.of_below (G := G1) hb7).trans g2)).own_row HOx.out HOFx.out)
   clear hA7 h1 h2 g1 g2 hb7
   unfold modV overM
   simp only
   go_wp2_with (first | (rw [<- hw_wz]; clear hw_wz) | fail)
   go_ret
   exact ⟨_, _, _, rfl, G', by rw [HE.out]; exact HG1.out, HMZ.out, by rw [HE.out]; exact HOZ.out.1, HOZ.out.2⟩
end Go.Proofs.YtooeeiiiflfckaaGreat
/- package kernel: enter. -/
namespace Go.Proofs.YtooeeiiiflfckaaGreat
open Go.RowKit
def EnV (Y : KLay) (Ks : KSt) (j eb eo : Nat) (xt xv : Int) (a : Nat) (v : Value) : Prop := match a with
 | 0 => v = .pointer (some ⟨Y.sb j, 0, none⟩)
 | 1 => v = .pointer (some ⟨Y.sb j, 0, none⟩)
 | 2 => v = .pointer (some ⟨Y.sb j, 0, none⟩)
 | 3 => v = .pointer (some ⟨Y.lb j, 0, none⟩)
 | 4 => v = .pointer (some ⟨eb, eo, none⟩)
 | 5 => v = .pointer (some ⟨eb, eo, none⟩)
 | 6 => v = .pointer (some ⟨eb, eo + 3, none⟩)
 | 7 => v = .int .i64 xt
 | 8 => v = .pointer (some ⟨eb, eo, none⟩)
 | 9 => v = .pointer (some ⟨eb, eo, none⟩)
 | 10 => v = .pointer (some ⟨eb, eo + 4, none⟩)
 | 11 => v = .int .i64 xv
 | 12 => v = .pointer (some ⟨Y.kb, 0, none⟩)
 | 13 => v = .pointer (some ⟨Y.kb, 0, none⟩)
 | 14 => v = .pointer (some ⟨Y.kb, 0, none⟩)
 | 15 => v = .pointer (some ⟨Y.kb, 0, none⟩)
 | 16 => v = .pointer (some ⟨Y.kb, 0, none⟩)
 | 17 => v = .int .i64 Ks.now
 | _ => True
set_option maxRecDepth 100000 in
set_option maxHeartbeats 8000000 in
theorem kenter_any (Y : KLay) (Ks : KSt) (G : Nat -> Prop) (m : Int) (w : World) (h : KAt w Y Ks G) (hk : KOk Ks m) (eb eo : Nat) (en : Entry) (he : EntryAt w eb eo en) :
  Calls Tryz.prog 43 #[.pointer (some ⟨Y.kb, 0, none⟩), .pointer (some ⟨eb, eo, none⟩)] w fun e w' => ∃ a n c, e = .returned (.slice a n c) /\ ∃ G', KAt w' Y (enterK Ks en).1 G' /\ Moves G G' w w' /\ EvRow w' w.heap.size (.slice a n c) (enterK Ks en).2 /\ Off (.slice a n c) G' := by
 have HA := Lib.hid h
 have HK0 := Lib.hid hk
 have hfit : ∀ mm, Calls Tryz.prog 68 #[.pointer (some ⟨Y.kb, 9, none⟩), .pointer (some ⟨eb, eo, none⟩)] (w.drewN mm) fun e w'' => e = .returned (.bool (fits Ks.cfg en)) /\ ∃ n, w'' = w.drewN n := fun mm => by
  refine (fits_any Y.kb eb eo Ks.cfg Y.pv en (w.drewN mm) (h.cell 11 Y.pv rfl) (h.conf.1.parts.ext (Ext.drewN w mm)) he).mono ?_
  rintro e w'' ⟨rfl, n, rfl⟩
  exact ⟨rfl, mm + n, by simp⟩
 have HF := Lib.hid hfit
 have HE := Lib.hid he
 obtain ⟨xa, xk, xp, xt, xv⟩ := en
 obtain ⟨y0, y1, y2, y3, y4⟩ := id he
 unfold IntAt at y0 y1 y2 y3 y4
 simp only at y0 y1 y2 y3 y4
 have kb0 := h.cell 0 (.int .i64 Ks.now) rfl
 clear h hk he hfit
 go_enter Tryz.func43, Tryz.ntmps43
 by_cases h0 : xa ≠ Ks.now
 ·have e0 : (xa != Ks.now) = true := by simpa using h0
  have HR : Hid (enterK Ks ⟨xa, xk, xp, xt, xv⟩ = (Ks, [])) := Lib.hid (by unfold enterK; rw [if_pos (Or.inl h0)])
  clear h0
  go_wp2_with fail
  go_quiet (fail)
  go_wp2_with fail
  go_ret
  exact ⟨none, 0, 0, rfl, G, by rw [HR.out]; exact HA.out.below (below_drewN (Below.refl _ _) _), Moves.of_below (below_drewN (Below.refl _ _) _), by rw [HR.out]; exact World.ownsRow_nil _ _ _ _, fun g hg => by cases hg⟩
 have e0 : (xa != Ks.now) = false := by simpa using h0
 obtain ⟨ft, hft⟩ : ∃ ft, ft = fits Ks.cfg ⟨xa, xk, xp, xt, xv⟩ := ⟨_, rfl⟩
 rw [<- hft] at HF
 cases ft
 ·have HR : Hid (enterK Ks ⟨xa, xk, xp, xt, xv⟩ = (Ks, [])) := Lib.hid (by unfold enterK; rw [if_pos (Or.inr hft.symm)])
  clear h0 hft
  go_wp2_with fail
  go_quiet (first | (go_at_call 68; exact HF.out _))
  go_wp2_with fail
  go_ret
  exact ⟨none, 0, 0, rfl, G, by rw [HR.out]; exact HA.out.below (below_drewN (Below.refl _ _) _), Moves.of_below (below_drewN (Below.refl _ _) _), by rw [HR.out]; exact World.ownsRow_nil _ _ _ _, fun g hg => by cases hg⟩
 have hpt := fits_part hft.symm
 simp only at hpt
 rw [<- HK0.out.len] at hpt
 obtain ⟨j, rfl⟩ : ∃ j : Nat, xp = j := ⟨xp.toNat, by omega⟩
 have hj : j < Ks.seats.length := by omega
 have HR : Hid (enterK Ks ⟨xa, xk, (j : Int), xt, xv⟩ = if xk = 1 then (Ks.setSeat j { Ks.seat j with inp := pushQ 16 (Ks.seat j).inp xv }, []) else (Ks.setSeat j { Ks.seat j with loc := pickSt (Ks.seat j).loc xt xv Ks.now }, pickEv (Ks.seat j).loc xt xv Ks.now)) := Lib.hid (by
  unfold enterK
  rw [if_neg (by rintro (q | q); exact h0 q; rw [<- hft] at q; cases q)]
  simp only [Int.toNat_natCast])
 have HJ := Lib.hid hj
 have kb14 := HA.out.cell 14 Y.sv rfl
 obtain ⟨sa, sc, hsv, hse⟩ := HA.out.seats
 obtain ⟨sb, hsb, yp⟩ := hse j hj
 subst hsb
 unfold ptrV at yp
 obtain ⟨n, hn⟩ : ∃ n, n = Ks.seats.length := ⟨_, rfl⟩
 rw [<- hn] at hsv
 rw [hsv] at kb14
 have hjn : (j : Int) < (n : Int) := by omega
 have hjn2 : j < n := by omega
 clear h0 hft hpt hsv hse hn hj
 go_wp2_with fail
 go_quiet (first | (go_at_call 68; exact HF.out _))
 obtain ⟨wp, hq_wp, hh_wp, hb_wp⟩ : ∃ wp : World, wp = w.drewN nq /\ wp.heap = w.heap /\ Below w.heap.size w wp := ⟨_, rfl, rfl, below_drewN (Below.refl _ _) _⟩
 rw [<- hq_wp]
 have HQ_wp := Lib.hid (And.intro hh_wp hb_wp)
 clear hq_wp hh_wp hb_wp
 replace y0 := (cell_of_heap HQ_wp.out.1 _).trans y0
 replace y1 := (cell_of_heap HQ_wp.out.1 _).trans y1
 replace y2 := (cell_of_heap HQ_wp.out.1 _).trans y2
 replace y3 := (cell_of_heap HQ_wp.out.1 _).trans y3
 replace y4 := (cell_of_heap HQ_wp.out.1 _).trans y4
 replace kb0 := (cell_of_heap HQ_wp.out.1 _).trans kb0
 replace kb14 := (cell_of_heap HQ_wp.out.1 _).trans kb14
 replace yp := (cell_of_heap HQ_wp.out.1 _).trans yp
 go_wp2_with fail
 go_quiet (fail)
 obtain ⟨wq, hq_wq, hh_wq, hb_wq⟩ : ∃ wq : World, wq = wp.drewN nq /\ wq.heap = wp.heap /\ Below wp.heap.size wp wq := ⟨_, rfl, rfl, below_drewN (Below.refl _ _) _⟩
 rw [<- hq_wq]
 have HQ_wq := Lib.hid (And.intro hh_wq hb_wq)
 clear hq_wq hh_wq hb_wq
 replace y0 := (cell_of_heap HQ_wq.out.1 _).trans y0
 replace y1 := (cell_of_heap HQ_wq.out.1 _).trans y1
 replace y2 := (cell_of_heap HQ_wq.out.1 _).trans y2
 replace y3 := (cell_of_heap HQ_wq.out.1 _).trans y3
 replace y4 := (cell_of_heap HQ_wq.out.1 _).trans y4
 replace kb0 := (cell_of_heap HQ_wq.out.1 _).trans kb0
 replace kb14 := (cell_of_heap HQ_wq.out.1 _).trans kb14
 replace yp := (cell_of_heap HQ_wq.out.1 _).trans yp
 have HBq := Lib.hid (HQ_wp.out.2.trans (HQ_wq.out.2.mono HQ_wp.out.2.size))
 have HAq := Lib.hid (HA.out.below HBq.out)
 have HMq := Lib.hid (Moves.of_below (G := G) HBq.out)
 by_cases hk1 : xk = 1
 ·have e1 : (xk == 1) = true := by simpa using hk1
  have HR1 := Lib.hid (HR.out.trans (by rw [if_pos hk1]))
  have yr := HAq.out.ringPtr HJ.out
  clear hk1
  go_wp2_with fail
  refine region_tail 8 (by kernel_rfl) (by kernel_rfl) ?_
  intro wy hy hby
  have z4 := (cell_of_heap hy _).trans y4
  have zr := (cell_of_heap hy _).trans yr
  have HAy := Lib.hid (HAq.out.below hby)
  have HMy := Lib.hid (HMq.out.trans (Moves.of_below hby))
  clear hy hby y0 y1 y2 y3 y4 kb0 kb14 yp yr
  simp only [List.take_succ_cons, List.take_zero, List.drop_succ_cons, List.drop_zero]
  repeat still_step
  refine wpStill_nil ?_
  go_wp2_with fail
  refine (k_push Y Ks G j xv _ HAy.out HJ.out).mono ?_
  rintro e w2 ⟨old, rfl, G2, g1, g2⟩
  have HA2 := Lib.hid g1
  have HM2 := Lib.hid (HMy.out.trans g2)
  clear g1 g2
  go_wp2_with fail
  go_ret
  exact ⟨none, 0, 0, rfl, G2, by rw [HR1.out]; exact HA2.out, HM2.out, by rw [HR1.out]; exact World.ownsRow_nil _ _ _ _, fun g hg => by cases hg⟩
 ·have e1 : (xk == 1) = false := by simpa using hk1
  have HR1 := Lib.hid (HR.out.trans (by rw [if_neg hk1]))
  have yl := HAq.out.locPtr HJ.out
  have z3 := y3
  have z4 := y4
  clear hk1 y0 y3 y4
  have y0 := yl
  clear yl
  go_wp2_with fail
  refine region_inv0 rfl (by kernel_rfl) (QInv (EnV Y Ks j eb eo xt xv) 18 (fun W => Below wq.heap.size wq W) (fun v W => ∃ qa qn qc, v = .tuple #[.slice qa qn qc, .int .i64 (pickErr (Ks.seat j).loc xt xv Ks.now)] /\ ∃ G1, KAt W Y (Ks.setSeat j { Ks.seat j with loc := pickSt (Ks.seat j).loc xt xv Ks.now }) G1 /\ Moves G G1 w W /\ EvRow W w.heap.size (.slice qa qn qc) (pickEv (Ks.seat j).loc xt xv Ks.now) /\ Off (.slice qa qn qc) G1) [19, 20, 21, 22, 23] (fun j x y => (j = 19 -> y = x) /\ (j = 20 -> y = tupAt 0 x) /\ (j = 21 -> y = tupAt 1 x) /\ (j = 22 -> y = tupAt 0 x) /\ (j = 23 -> y = tupAt 1 x) /\ True)) (fun vs h0 => ⟨(fun i h => by cases h), (fun _ => below_drew (Below.refl _ _)), (fun h => by cases h), (fun j _ h => by cases h)⟩) ?_ ?_
  ·simp (config := { maxSteps := 4000000 }) only [List.map, putAll, Act.put, InvE, List.setIfInBounds_toArray, List.set_cons_succ, List.set_cons_zero, Nat.reduceAdd]
   refine ⟨?_, ?_, ?_, ?_, ?_, ?_, ?_, ?_, ?_, ?_, ?_, ?_, ?_, ?_, ?_, ?_, ?_, ?_, ?_, ?_, ?_, ?_, ?_, ?_, trivial⟩
   all_goals
    intro L vs W hI hi hn hcl K hK
    rw [if_pos (by simp [Region.wanted])]
   ·have HK := Lib.hid (fun v h => hK v W (hI.plain (v := v) (i := 0) (by decide) (by decide) h))
    clear hK hI hn hcl hi
    go_simp
    exact HK.out _ rfl
   ·have r0 : vs 0 = _ := hI.pv 0 (hn 0 rfl)
    simp only [r0] at hK |-
    have HK := Lib.hid (fun v h => hK v W (hI.plain (v := v) (i := 1) (by decide) (by decide) h))
    clear hK hI hn hcl hi
    go_simp
    exact HK.out _ rfl
   ·have r1 : vs 1 = _ := hI.pv 1 (hn 1 rfl)
    simp only [r1] at hK |-
    have HK := Lib.hid (fun v h => hK v W (hI.plain (v := v) (i := 2) (by decide) (by decide) h))
    clear hK hI hn hcl hi
    go_simp
    exact HK.out _ rfl
   ·have r2 : vs 2 = _ := hI.pv 2 (hn 2 rfl)
    have hLn : L 18 = false := by
     cases h : L 18
     ·rfl
     ·exact absurd (hcl 18 _ rfl h 3 rfl) (Bool.eq_false_iff.1 hi)
    have HS := Lib.hid (hI.s0 hLn)
    have b3_0 := Ext.below HS.out _ _ y0
    simp only [r2] at hK |-
    have HK := Lib.hid (fun v h => hK v W (hI.plain (v := v) (i := 3) (by decide) (by decide) h))
    clear hK hI hn hcl hi hLn
    go_simp
    exact HK.out _ rfl
   ·have HK := Lib.hid (fun v h => hK v W (hI.plain (v := v) (i := 4) (by decide) (by decide) h))
    clear hK hI hn hcl hi
    go_simp
    exact HK.out _ rfl
   ·have r4 : vs 4 = _ := hI.pv 4 (hn 4 rfl)
    simp only [r4] at hK |-
    have HK := Lib.hid (fun v h => hK v W (hI.plain (v := v) (i := 5) (by decide) (by decide) h))
    clear hK hI hn hcl hi
    go_simp
    exact HK.out _ rfl
   ·have r5 : vs 5 = _ := hI.pv 5 (hn 5 rfl)
    simp only [r5] at hK |-
    have HK := Lib.hid (fun v h => hK v W (hI.plain (v := v) (i := 6) (by decide) (by decide) h))
    clear hK hI hn hcl hi
    go_simp
    exact HK.out _ rfl
   ·have r6 : vs 6 = _ := hI.pv 6 (hn 6 rfl)
    have hLn : L 18 = false := by
     cases h : L 18
     ·rfl
     ·exact absurd (hcl 18 _ rfl h 7 rfl) (Bool.eq_false_iff.1 hi)
    have HS := Lib.hid (hI.s0 hLn)
    have b7_0 := Ext.below HS.out _ _ z3
    simp only [r6] at hK |-
    have HK := Lib.hid (fun v h => hK v W (hI.plain (v := v) (i := 7) (by decide) (by decide) h))
    clear hK hI hn hcl hi hLn
    go_simp
    exact HK.out _ rfl
   ·have HK := Lib.hid (fun v h => hK v W (hI.plain (v := v) (i := 8) (by decide) (by decide) h))
    clear hK hI hn hcl hi
    go_simp
    exact HK.out _ rfl
   ·have r8 : vs 8 = _ := hI.pv 8 (hn 8 rfl)
    simp only [r8] at hK |-
    have HK := Lib.hid (fun v h => hK v W (hI.plain (v := v) (i := 9) (by decide) (by decide) h))
    clear hK hI hn hcl hi
    go_simp
    exact HK.out _ rfl
   ·have r9 : vs 9 = _ := hI.pv 9 (hn 9 rfl)
    simp only [r9] at hK |-
    have HK := Lib.hid (fun v h => hK v W (hI.plain (v := v) (i := 10) (by decide) (by decide) h))
    clear hK hI hn hcl hi
    go_simp
    exact HK.out _ rfl
   ·have r10 : vs 10 = _ := hI.pv 10 (hn 10 rfl)
    have hLn : L 18 = false := by
     cases h : L 18
     ·rfl
     ·exact absurd (hcl 18 _ rfl h 11 rfl) (Bool.eq_false_iff.1 hi)
    have HS := Lib.hid (hI.s0 hLn)
    have b11_0 := Ext.below HS.out _ _ z4
    simp only [r10] at hK |-
    have HK := Lib.hid (fun v h => hK v W (hI.plain (v := v) (i := 11) (by decide) (by decide) h))
    clear hK hI hn hcl hi hLn
    go_simp
    exact HK.out _ rfl
   ·have HK := Lib.hid (fun v h => hK v W (hI.plain (v := v) (i := 12) (by decide) (by decide) h))
    clear hK hI hn hcl hi
    go_simp
    exact HK.out _ rfl
   ·have r12 : vs 12 = _ := hI.pv 12 (hn 12 rfl)
    simp only [r12] at hK |-
    have HK := Lib.hid (fun v h => hK v W (hI.plain (v := v) (i := 13) (by decide) (by decide) h))
    clear hK hI hn hcl hi
    go_simp
    exact HK.out _ rfl
   ·have r13 : vs 13 = _ := hI.pv 13 (hn 13 rfl)
    simp only [r13] at hK |-
    have HK := Lib.hid (fun v h => hK v W (hI.plain (v := v) (i := 14) (by decide) (by decide) h))
    clear hK hI hn hcl hi
    go_simp
    exact HK.out _ rfl
   ·have r14 : vs 14 = _ := hI.pv 14 (hn 14 rfl)
    simp only [r14] at hK |-
    have HK := Lib.hid (fun v h => hK v W (hI.plain (v := v) (i := 15) (by decide) (by decide) h))
    clear hK hI hn hcl hi
    go_simp
    exact HK.out _ rfl
   ·have r15 : vs 15 = _ := hI.pv 15 (hn 15 rfl)
    simp only [r15] at hK |-
    have HK := Lib.hid (fun v h => hK v W (hI.plain (v := v) (i := 16) (by decide) (by decide) h))
    clear hK hI hn hcl hi
    go_simp
    exact HK.out _ rfl
   ·have r16 : vs 16 = _ := hI.pv 16 (hn 16 rfl)
    have hLn : L 18 = false := by
     cases h : L 18
     ·rfl
     ·exact absurd (hcl 18 _ rfl h 17 rfl) (Bool.eq_false_iff.1 hi)
    have HS := Lib.hid (hI.s0 hLn)
    have b17_0 := Ext.below HS.out _ _ kb0
    simp only [r16] at hK |-
    have HK := Lib.hid (fun v h => hK v W (hI.plain (v := v) (i := 17) (by decide) (by decide) h))
    clear hK hI hn hcl hi hLn
    go_simp
    exact HK.out _ rfl
   ·have r3 : vs 3 = _ := hI.pv 3 (hn 3 rfl)
    have r7 : vs 7 = _ := hI.pv 7 (hn 7 rfl)
    have r11 : vs 11 = _ := hI.pv 11 (hn 11 rfl)
    have r17 : vs 17 = _ := hI.pv 17 (hn 17 rfl)
    simp only [r3, r7, r11, r17] at hK |-
    have HSW := Lib.hid (hI.s0 hi)
    have HQ := Lib.hid (fun v W2 (h : (fun v W => ∃ qa qn qc, v = .tuple #[.slice qa qn qc, .int .i64 (pickErr (Ks.seat j).loc xt xv Ks.now)] /\ ∃ G1, KAt W Y (Ks.setSeat j { Ks.seat j with loc := pickSt (Ks.seat j).loc xt xv Ks.now }) G1 /\ Moves G G1 w W /\ EvRow W w.heap.size (.slice qa qn qc) (pickEv (Ks.seat j).loc xt xv Ks.now) /\ Off (.slice qa qn qc) G1) v W2) => hK v W2 (hI.call hi trivial (by decide) h))
    clear hK hI hn hcl hi
    go_simp
    refine (k_pick Y Ks G j m xt xv Ks.now W (HAq.out.below HSW.out) HJ.out (HK0.out.loc j HJ.out)).mono ?_
    rintro e w5 ⟨qa, qn, qc, rfl, G1, g1, g2, ho, hof⟩
    exact HQ.out _ w5 ⟨qa, qn, qc, rfl, G1, g1, HMq.out.trans ((Moves.of_below HSW.out).trans g2), own_low ho (Nat.le_trans HMq.out.size HSW.out.size), hof⟩
   ·have hLn : L 18 = true := (hn 18 rfl)
    obtain ⟨qa, qn, qc, hsh, hrest⟩ := hI.s1 hLn
    have rs : vs 18 = .tuple #[.slice qa qn qc, .int .i64 (pickErr (Ks.seat j).loc xt xv Ks.now)] := hsh
    simp only [rs] at hK |-
    have HQ := Lib.hid (fun v (h : (fun j x y => (j = 19 -> y = x) /\ (j = 20 -> y = tupAt 0 x) /\ (j = 21 -> y = tupAt 1 x) /\ (j = 22 -> y = tupAt 0 x) /\ (j = 23 -> y = tupAt 1 x) /\ True) 19 (vs 18) v) => hK v W (hI.dep (by decide) trivial hLn h))
    have HSH := Lib.hid hsh
    clear hK hI hn hcl hi hsh hrest rs hLn
    go_simp
    exact HQ.out _ (by rw [HSH.out]; simp [tupAt])
   ·have hLn : L 18 = true := (hI.dv 19 (by decide) (hn 19 rfl)).1
    obtain ⟨qa, qn, qc, hsh, hrest⟩ := hI.s1 hLn
    have rd := (hI.dv 19 (by decide) (hn 19 rfl)).2
    have rs : vs 19 = .tuple #[.slice qa qn qc, .int .i64 (pickErr (Ks.seat j).loc xt xv Ks.now)] := by have := rd; simp only [Nat.reduceEqDiff, false_implies, true_implies, true_and, and_true] at this; rw [this, hsh] <;> rfl
    simp only [rs] at hK |-
    have HQ := Lib.hid (fun v (h : (fun j x y => (j = 19 -> y = x) /\ (j = 20 -> y = tupAt 0 x) /\ (j = 21 -> y = tupAt 1 x) /\ (j = 22 -> y = tupAt 0 x) /\ (j = 23 -> y = tupAt 1 x) /\ True) 20 (vs 18) v) => hK v W (hI.dep (by decide) trivial hLn h))
    have HSH := Lib.hid hsh
    clear hK hI hn hcl hi hsh hrest rd rs hLn
    go_simp
    exact HQ.out _ (by rw [HSH.out]; simp [tupAt])
   ·have hLn : L 18 = true := (hI.dv 19 (by decide) (hn 19 rfl)).1
    obtain ⟨qa, qn, qc, hsh, hrest⟩ := hI.s1 hLn
    have rd := (hI.dv 19 (by decide) (hn 19 rfl)).2
    have rs : vs 19 = .tuple #[.slice qa qn qc, .int .i64 (pickErr (Ks.seat j).loc xt xv Ks.now)] := by have := rd; simp only [Nat.reduceEqDiff, false_implies, true_implies, true_and, and_true] at this; rw [this, hsh] <;> rfl
    simp only [rs] at hK |-
    have HQ := Lib.hid (fun v (h : (fun j x y => (j = 19 -> y = x) /\ (j = 20 -> y = tupAt 0 x) /\ (j = 21 -> y = tupAt 1 x) /\ (j = 22 -> y = tupAt 0 x) /\ (j = 23 -> y = tupAt 1 x) /\ True) 21 (vs 18) v) => hK v W (hI.dep (by decide) trivial hLn h))
    have HSH := Lib.hid hsh
    clear hK hI hn hcl hi hsh hrest rd rs hLn
    go_simp
    exact HQ.out _ (by rw [HSH.out]; simp [tupAt])
   ·have hLn : L 18 = true := (hI.dv 20 (by decide) (hn 20 rfl)).1
    obtain ⟨qa, qn, qc, hsh, hrest⟩ := hI.s1 hLn
    have rd := (hI.dv 20 (by decide) (hn 20 rfl)).2
    have rs : vs 20 = .slice qa qn qc := by have := rd; simp only [Nat.reduceEqDiff, false_implies, true_implies, true_and, and_true] at this; rw [this, hsh] <;> rfl
    simp only [rs] at hK |-
    have HQ := Lib.hid (fun v (h : (fun j x y => (j = 19 -> y = x) /\ (j = 20 -> y = tupAt 0 x) /\ (j = 21 -> y = tupAt 1 x) /\ (j = 22 -> y = tupAt 0 x) /\ (j = 23 -> y = tupAt 1 x) /\ True) 22 (vs 18) v) => hK v W (hI.dep (by decide) trivial hLn h))
    have HSH := Lib.hid hsh
    clear hK hI hn hcl hi hsh hrest rd rs hLn
    go_simp
    exact HQ.out _ (by rw [HSH.out]; simp [tupAt])
   ·have hLn : L 18 = true := (hI.dv 21 (by decide) (hn 21 rfl)).1
    obtain ⟨qa, qn, qc, hsh, hrest⟩ := hI.s1 hLn
    have rd := (hI.dv 21 (by decide) (hn 21 rfl)).2
    have rs : vs 21 = .int .i64 (pickErr (Ks.seat j).loc xt xv Ks.now) := by have := rd; simp only [Nat.reduceEqDiff, false_implies, true_implies, true_and, and_true] at this; rw [this, hsh] <;> rfl
    simp only [rs] at hK |-
    have HQ := Lib.hid (fun v (h : (fun j x y => (j = 19 -> y = x) /\ (j = 20 -> y = tupAt 0 x) /\ (j = 21 -> y = tupAt 1 x) /\ (j = 22 -> y = tupAt 0 x) /\ (j = 23 -> y = tupAt 1 x) /\ True) 23 (vs 18) v) => hK v W (hI.dep (by decide) trivial hLn h))
    have HSH := Lib.hid hsh
    clear hK hI hn hcl hi hsh hrest rd rs hLn
    go_simp
    exact HQ.out _ (by rw [HSH.out]; simp [tupAt])
  ·intro vs W hI
   simp only [List.map, putAll, Act.put, List.setIfInBounds_toArray, List.set_cons_succ, List.set_cons_zero, Nat.reduceAdd]
   obtain ⟨qa, qn, qc, hsh, hs1⟩ := hI.s1 (by simp)
   have r0 : vs 0 = _ := hI.pv 0 (by simp)
   have r1 : vs 1 = _ := hI.pv 1 (by simp)
   have r2 : vs 2 = _ := hI.pv 2 (by simp)
   have r3 : vs 3 = _ := hI.pv 3 (by simp)
   have r4 : vs 4 = _ := hI.pv 4 (by simp)
   have r5 : vs 5 = _ := hI.pv 5 (by simp)
   have r6 : vs 6 = _ := hI.pv 6 (by simp)
   have r7 : vs 7 = _ := hI.pv 7 (by simp)
   have r8 : vs 8 = _ := hI.pv 8 (by simp)
   have r9 : vs 9 = _ := hI.pv 9 (by simp)
   have r10 : vs 10 = _ := hI.pv 10 (by simp)
   have r11 : vs 11 = _ := hI.pv 11 (by simp)
   have r12 : vs 12 = _ := hI.pv 12 (by simp)
   have r13 : vs 13 = _ := hI.pv 13 (by simp)
   have r14 : vs 14 = _ := hI.pv 14 (by simp)
   have r15 : vs 15 = _ := hI.pv 15 (by simp)
   have r16 : vs 16 = _ := hI.pv 16 (by simp)
   have r17 : vs 17 = _ := hI.pv 17 (by simp)
   have r19 : vs 19 = .tuple #[.slice qa qn qc, .int .i64 (pickErr (Ks.seat j).loc xt xv Ks.now)] := by have := (hI.dv 19 (by decide) (by simp)).2; simp only [Nat.reduceEqDiff, false_implies, true_implies, true_and, and_true] at this; rw [this, hsh] <;> rfl
   have r20 : vs 20 = .slice qa qn qc := by have := (hI.dv 20 (by decide) (by simp)).2; simp only [Nat.reduceEqDiff, false_implies, true_implies, true_and, and_true] at this; rw [this, hsh] <;> rfl
   have r21 : vs 21 = .int .i64 (pickErr (Ks.seat j).loc xt xv Ks.now) := by have := (hI.dv 21 (by decide) (by simp)).2; simp only [Nat.reduceEqDiff, false_implies, true_implies, true_and, and_true] at this; rw [this, hsh] <;> rfl
   have r22 : vs 22 = .slice qa qn qc := by have := (hI.dv 22 (by decide) (by simp)).2; simp only [Nat.reduceEqDiff, false_implies, true_implies, true_and, and_true] at this; rw [this, hsh] <;> rfl
   have r23 : vs 23 = .int .i64 (pickErr (Ks.seat j).loc xt xv Ks.now) := by have := (hI.dv 23 (by decide) (by simp)).2; simp only [Nat.reduceEqDiff, false_implies, true_implies, true_and, and_true] at this; rw [this, hsh] <;> rfl
   simp only [hsh, r0, r1, r2, r3, r4, r5, r6, r7, r8, r9, r10, r11, r12, r13, r14, r15, r16, r17, r19, r20, r21, r22, r23]
   clear hI hsh r0 r1 r2 r3 r4 r5 r6 r7 r8 r9 r10 r11 r12 r13 r14 r15 r16 r17 r19 r20 r21 r22 r23
   have HS1 := Lib.hid hs1
   clear hs1
   go_wp2_with fail
   go_ret
   obtain ⟨G1, g1, g2, ho, hof⟩ := HS1.out
   exact ⟨_, _, _, rfl, G1, by rw [HR1.out]; exact g1, g2, by rw [HR1.out]; exact ho, hof⟩
end Go.Proofs.YtooeeiiiflfckaaGreat
/- package kernel: step. -/
namespace Go.Proofs.YtooeeiiiflfckaaGreat
open Go.RowKit
def StV (Y : KLay) (i : Nat) (ca : Option Addr) (cn cc : Nat) (vm : Vm) (inw ou : Int) (rv : Vm) (f0 : Bool) (f1 f2 f3 : Int) (f4 : Bool) (er : Int) (a : Nat) (v : Value) : Prop := match a with
 | 0 => v = .pointer (some ⟨Y.sb i, 0, none⟩)
 | 1 => v = .pointer (some ⟨Y.sb i, 0, none⟩)
 | 2 => v = .pointer (some ⟨Y.sb i, 2, none⟩)
 | 3 => v = .slice ca cn cc
 | 4 => v = .pointer (some ⟨Y.sb i, 0, none⟩)
 | 5 => v = .pointer (some ⟨Y.sb i, 0, none⟩)
 | 6 => v = .pointer (some ⟨Y.sb i, 3, none⟩)
 | 7 => v = .agg (vmCells vm).toArray
 | 8 => v = .int .i64 inw
 | 9 => v = .pointer (some ⟨Y.kb, 0, none⟩)
 | 10 => v = .pointer (some ⟨Y.kb, 0, none⟩)
 | 11 => v = .pointer (some ⟨Y.kb, 15, none⟩)
 | 12 => v = .pointer (some ⟨Y.pb, 0, none⟩)
 | 13 => v = .int .i64 i
 | 14 => v = .int .i64 ou
 | 15 => v = .pointer (some ⟨Y.kb, 0, none⟩)
 | 16 => v = .pointer (some ⟨Y.kb, 0, none⟩)
 | 17 => v = .pointer (some ⟨Y.kb, 15, none⟩)
 | 18 => v = .pointer (some ⟨Y.pb, 0, none⟩)
 | 19 => v = .int .i64 i
 | 21 => v = .tuple #[.agg (vmCells rv).toArray, .agg #[.bool f0, .int .i64 f1, .int .i64 f2, .int .i64 f3, .bool f4], .int .i64 er]
 | 22 => v = .tuple #[.agg (vmCells rv).toArray, .agg #[.bool f0, .int .i64 f1, .int .i64 f2, .int .i64 f3, .bool f4], .int .i64 er]
 | 23 => v = .agg (vmCells rv).toArray
 | 24 => v = .agg #[.bool f0, .int .i64 f1, .int .i64 f2, .int .i64 f3, .bool f4]
 | 25 => v = .int .i64 er
 | 30 => v = .int .i64 er
 | _ => True
theorem vmSize {v : Vm} (h : v.mem.length = 16) : (vmCells v).toArray.size = 18 := by simp [vmCells, h]
theorem vm_one (v : Vm) : (vmCells v).toArray.all (·.oneCell') = true := by
 refine all_oneCell_toArray ?_
 intro u hu
 unfold vmCells at hu
 rcases List.mem_cons.1 hu with rfl | hu
 ·rfl
 rcases List.mem_cons.1 hu with rfl | hu
 ·rfl
 obtain ⟨x, -, rfl⟩ := List.mem_map.1 hu
 rfl
def setLs (cs : List Value) : Nat -> List Value -> List Value
 | _, [] => cs
 | o, u :: r => setLs (cs.set o u) (o + 1) r
theorem setCells_heap {g : Nat} {t : TypeId} {fr : Nat × Nat} (us : List Value) : ∀ (o : Nat) {W : World} {cs : List Value}, W.heap[g]? = some (.cells cs.toArray t fr) -> (W.setCells g o us).heap[g]? = some (.cells (setLs cs o us).toArray t fr) := by
 induction us with
 | nil => intro o W cs h; exact h
 | cons u r ih =>
  intro o W cs h
  have := blk_set h o u
  rw [List.setIfInBounds_toArray] at this
  exact ih (o + 1) this
theorem setCells_grown {g : Nat} (us : List Value) : ∀ (o : Nat) (W : World), W.grownBy (W.setCells g o us) (some g) := by
 induction us with
 | nil => intro o W; exact World.grownBy.refl W _
 | cons u r ih => intro o W; exact grown_trans (set_grown _ _ _ _) (ih _ _)
theorem setLs_mid (us : List Value) : ∀ (pre old post : List Value), us.length = old.length -> setLs (pre ++ (old ++ post)) pre.length us = pre ++ (us ++ post) := by
 induction us with
 | nil => intro pre old post h; rw [List.length_eq_zero_iff.1 h.symm]; rfl
 | cons u r ih =>
  intro pre old post h
  cases old with
  | nil => simp at h
  | cons x o =>
   have h2 := ih (pre ++ [u]) o post (by simpa using h)
   show setLs ((pre ++ ((x :: o) ++ post)).set pre.length u) (pre.length + 1) r = _
   rw [show (pre ++ ((x :: o) ++ post)).set pre.length u = (pre ++ [u]) ++ (o ++ post) by simp, show pre.length + 1 = (pre ++ [u]).length by simp, h2]
   simp
theorem KAt.putVm {W : World} {Y : KLay} {Ks : KSt} {G : Nat -> Prop} (h : KAt W Y Ks G) {i : Nat} (hi : i < Ks.seats.length) {v' : Vm} (hv : v'.mem.length = 16) : ∃ G', KAt (W.setCells (Y.sb i) 3 (vmCells v')) Y (Ks.setSeat i { Ks.seat i with vm := v' }) G' /\ Moves G G' W (W.setCells (Y.sb i) 3 (vmCells v')) := by
 have hs := h.seat hi
 obtain ⟨F, hI, rfl⟩ := h
 have hc := setCells_heap (vmCells v') 3 hs.1
 have hm : setLs ([ptrV (Y.lb i), vi (Ks.seat i).lvl, Y.cv i] ++ (vmCells (Ks.seat i).vm ++ [ptrV (Y.rb i)])) 3 (vmCells v') = [ptrV (Y.lb i), vi (Ks.seat i).lvl, Y.cv i] ++ (vmCells v' ++ [ptrV (Y.rb i)]) := setLs_mid (vmCells v') [ptrV (Y.lb i), vi (Ks.seat i).lvl, Y.cv i] (vmCells (Ks.seat i).vm) [ptrV (Y.rb i)] (by simp [vmCells, hv, hs.2.2])
 rw [show sCells Y i (Ks.seat i) = [ptrV (Y.lb i), vi (Ks.seat i).lvl, Y.cv i] ++ (vmCells (Ks.seat i).vm ++ [ptrV (Y.rb i)]) from rfl, hm] at hc
 obtain ⟨G', k1, k2, -⟩ := hI.setVm hi (setCells_grown (vmCells v') 3 W) hv hc
 exact ⟨G', k1, k2⟩
theorem KAt.there {W : World} {Y : KLay} {Ks : KSt} {G : Nat -> Prop} (h : KAt W Y Ks G) {i : Nat} (hi : i < Ks.seats.length) : W.there (Y.sb i) 3 18 := fun j hj => by
 have hs := h.seat hi
 have hl : (sCells Y i (Ks.seat i)).length = 22 := by simp [sCells, hs.2.2]
 refine ⟨?_, thaw hs.1 _⟩
 unfold World.cell?
 rw [hs.1]
 simp [hl]
 omega
theorem KAt.app2 {w W W' : World} {Y : KLay} {Ks : KSt} {G0 G : Nat -> Prop} {v v' : Value} {b n : Nat} {e : TypeId} {size : Nat} {xs : List Value} (h : KAt W Y Ks G) (hm : Moves G0 G w W) (hv : W.ownsRow b e size v n xs) (hb : w.heap.size <= b) (hf : Off v G) (hg : W.grownBy W' v.ownBlock) (hn : v'.ownBlock = v.ownBlock ∨ v'.ownBlock = some W.heap.size) :
  KAt W' Y Ks G /\ Moves G0 G w W' /\ Off v' G := by
 have hk : ∀ k, k < W.heap.size -> some k ≠ v.ownBlock -> W'.heap[k]? = W.heap[k]? := fun k hk hne => hg.block k hk hne
 refine ⟨h.far (fun k hG => hk k (h.lt hG) (fun q => hf k q.symm hG)), ⟨⟨hg.os.trans hm.keep.os, hg.tape.trans hm.keep.tape, hg.output.trans hm.keep.output, Nat.le_trans hm.keep.size hg.size, fun k hkw hG => (hk k (Nat.lt_of_lt_of_le hkw hm.keep.size) (fun q => by have := (hv.lt k q.symm).1; omega)).trans (hm.keep.block k hkw hG)⟩, hm.own⟩, fun g hg2 hG => ?_⟩
 rcases hn with q | q
 ·exact hf g (q.symm.trans hg2) hG
 ·rw [q] at hg2
  injection hg2 with hg2
  have := h.lt hG
  omega
theorem outsideK_le (K : KSt) (i : Nat) (f : Eff) : (outsideK K i f).2.length <= 2 := by
 unfold outsideK
 simp only
 repeat' split
 all_goals simp
theorem chargeK_le (K : KSt) (i : Nat) : (chargeK K i).2.length <= 4 := by
 have h3 := runEv_le (K.seat i).loc
 unfold chargeK
 simp only
 repeat' split
 all_goals simp
 all_goals omega
theorem evRow_app {W : World} {B n m : Nat} {v : Value} {es fs : List Event} (h : W.ownsRow B 45 4 v (n + m) (es.flatMap evCells ++ fs.flatMap evCells)) (hn : n = es.length) (hm : m = fs.length) : EvRow W B v (es ++ fs) := by
 subst hn hm
 unfold EvRow
 rw [List.length_append, List.flatMap_append]
 exact h
theorem evCells_len (es : List Event) : (es.flatMap evCells).length = es.length * 4 := by
 induction es with
 | nil => rfl
 | cons x r ih => simp only [List.flatMap_cons, List.length_append, ih, List.length_cons]; simp [evCells]; omega
theorem evCells_one (es : List Event) : ∀ u ∈ es.flatMap evCells, u.oneCell' = true := by
 intro u hu
 obtain ⟨x, -, hx⟩ := List.mem_flatMap.1 hu
 exact flatEvent.one x u hx
theorem seat_range {W : World} {Y : KLay} {i : Nat} {s : SSt} (h : W.heap[Y.sb i]? = some (.cells (sCells Y i s).toArray 105 (0, 0))) : W.rangeAt (Y.sb i) 3 (vmCells s.vm) := fun j v hv => by
 refine BlockIs.of h (3 + j) v ?_
 have hl : j < (vmCells s.vm).length := (List.getElem?_eq_some_iff.1 hv).1
 rw [List.getElem?_toArray, show sCells Y i s = ptrV (Y.lb i) :: vi s.lvl :: Y.cv i :: (vmCells s.vm ++ [ptrV (Y.rb i)]) from rfl, show 3 + j = j + 1 + 1 + 1 by omega, List.getElem?_cons_succ, List.getElem?_cons_succ, List.getElem?_cons_succ, List.getElem?_append_left hl]
 exact hv
theorem stepV_len (p : List Instr) (v : Vm) (inw outs : Int) (gets : List Int) (h : v.mem.length = 16) : (stepV p v inw outs gets).1.mem.length = 16 := by
 have hre : ∀ (v : Vm) (i : Instr), v.mem.length = 16 -> (reckon v i).mem.length = 16 := by
  intro v i h
  unfold reckon
  repeat' split
  all_goals first | exact h | (simp only [List.length_set]; exact h)
 have hle : ∀ (v : Vm) (i : Instr), v.mem.length = 16 -> (leap v i).mem.length = 16 := by
  intro v i h
  unfold leap
  repeat' split
  all_goals exact h
 have hra : ∀ (v : Vm) (i : Instr), v.mem.length = 16 -> (reach v inw outs gets i).1.mem.length = 16 := by
  intro v i h
  unfold reach
  repeat' split
  all_goals exact h
 unfold stepV
 split
 ·rfl
 ·split
  ·exact h
  ·exact hra _ _ (hle _ _ (hre _ _ h))
structure StT (wr : World) (gets : List Int) (rv : Vm) (f0 : Bool) (f1 f2 f3 : Int) (f4 : Bool) (l2 l3 la lb lc ld : Bool) (v2 va vb : Value) (W : World) : Prop where
 below : Below wr.heap.size wr W
 row : l2 = true -> l3 = false -> IntsV W v2 gets
 b8 : la = true -> ∃ g, va = .pointer (some ⟨g, 0, none⟩) /\ wr.heap.size <= g /\ W.heap[g]? = some (.cells (if lc = true then (vmCells rv).toArray else #[.int .i64 0, .int .i64 0, .int .i64 0, .int .i64 0, .int .i64 0, .int .i64 0, .int .i64 0, .int .i64 0, .int .i64 0, .int .i64 0, .int .i64 0, .int .i64 0, .int .i64 0, .int .i64 0, .int .i64 0, .int .i64 0, .int .i64 0, .int .i64 0]) 69 (0, 0))
 b9 : lb = true -> ∃ g, vb = .pointer (some ⟨g, 0, none⟩) /\ wr.heap.size <= g /\ W.heap[g]? = some (.cells (if ld = true then #[.bool f0, .int .i64 f1, .int .i64 f2, .int .i64 f3, .bool f4] else #[.bool false, .int .i64 0, .int .i64 0, .int .i64 0, .bool false]) 180 (0, 0))
section
variable {wr : World} {gets : List Int} {rv : Vm} {f0 : Bool} {f1 f2 f3 : Int} {f4 : Bool} {l2 l3 la lb lc ld : Bool} {v2 va vb : Value} {W : World}
theorem StT.step (h : StT wr gets rv f0 f1 f2 f3 f4 l2 l3 la lb lc ld v2 va vb W) {W2 : World} (hb : Below W.heap.size W W2) : StT wr gets rv f0 f1 f2 f3 f4 l2 l3 la lb lc ld v2 va vb W2 :=
 ⟨bthen h.below hb, fun a b => (h.row a b).ext (Ext.below hb), fun a => by obtain ⟨g, q1, q2, q3⟩ := h.b8 a; exact ⟨g, q1, q2, keep_at q3 hb⟩, fun a => by obtain ⟨g, q1, q2, q3⟩ := h.b9 a; exact ⟨g, q1, q2, keep_at q3 hb⟩⟩
theorem StT.took (h : StT wr gets rv f0 f1 f2 f3 f4 l2 l3 la lb lc ld v2 va vb W) {v : Value} (hv : IntsV W v gets) : StT wr gets rv f0 f1 f2 f3 f4 true l3 la lb lc ld v va vb W := ⟨h.below, fun _ _ => hv, h.b8, h.b9⟩
theorem StT.went (h : StT wr gets rv f0 f1 f2 f3 f4 l2 l3 la lb lc ld v2 va vb W) : StT wr gets rv f0 f1 f2 f3 f4 l2 true la lb lc ld v2 va vb W := ⟨h.below, fun _ q => (by cases q), h.b8, h.b9⟩
theorem StT.new8 (h : StT wr gets rv f0 f1 f2 f3 f4 l2 l3 la lb lc ld v2 va vb W) (hz : lc = false) : StT wr gets rv f0 f1 f2 f3 f4 l2 l3 true lb lc ld v2 (.pointer (some ⟨W.heap.size, 0, none⟩)) vb (W.alloc (.cells #[.int .i64 0, .int .i64 0, .int .i64 0, .int .i64 0, .int .i64 0, .int .i64 0, .int .i64 0, .int .i64 0, .int .i64 0, .int .i64 0, .int .i64 0, .int .i64 0, .int .i64 0, .int .i64 0, .int .i64 0, .int .i64 0, .int .i64 0, .int .i64 0] 69)) := by
 subst hz
 have k := h.step (balloc W (.cells #[.int .i64 0, .int .i64 0, .int .i64 0, .int .i64 0, .int .i64 0, .int .i64 0, .int .i64 0, .int .i64 0, .int .i64 0, .int .i64 0, .int .i64 0, .int .i64 0, .int .i64 0, .int .i64 0, .int .i64 0, .int .i64 0, .int .i64 0, .int .i64 0] 69))
 exact ⟨k.below, k.row, fun _ => ⟨_, rfl, h.below.size, blk_new _ _⟩, k.b9⟩
theorem StT.new9 (h : StT wr gets rv f0 f1 f2 f3 f4 l2 l3 la lb lc ld v2 va vb W) (hz : ld = false) : StT wr gets rv f0 f1 f2 f3 f4 l2 l3 la true lc ld v2 va (.pointer (some ⟨W.heap.size, 0, none⟩)) (W.alloc (.cells #[.bool false, .int .i64 0, .int .i64 0, .int .i64 0, .bool false] 180)) := by
 subst hz
 have k := h.step (balloc W (.cells #[.bool false, .int .i64 0, .int .i64 0, .int .i64 0, .bool false] 180))
 exact ⟨k.below, k.row, k.b8, fun _ => ⟨_, rfl, h.below.size, blk_new _ _⟩⟩
theorem StT.put8 (h : StT wr gets rv f0 f1 f2 f3 f4 l2 l3 la lb lc ld v2 va vb W) (h3 : l3 = true) {g : Nat} {cs : Array Value} (eg : va = .pointer (some ⟨g, 0, none⟩)) (hg : wr.heap.size <= g) (hc : W.heap[g]? = some (.cells cs 69 (0, 0))) : StT wr gets rv f0 f1 f2 f3 f4 l2 l3 la lb true ld v2 va vb (W.setRow g (vmCells rv).toArray) := by
 subst h3
 have hgr := setRow_grown W g (vmCells rv).toArray
 refine ⟨h.below.grown hgr h.below.size (fun k e => by injection e with e; omega), fun _ q => (by cases q), fun _ => ⟨g, eg, hg, by rw [if_pos rfl]; exact setRow_heap _ _ _ _ _ _ hc⟩, fun a => ?_⟩
 obtain ⟨g2, q1, q2, q3⟩ := h.b9 a
 refine ⟨g2, q1, q2, (hgr.block g2 (lt_of_block q3) (fun e => ?_)).trans q3⟩
 injection e with e
 subst e
 rw [hc] at q3
 injection q3 with q3
 injection q3 with _ q3
 exact absurd q3 (by decide)
theorem StT.put9 (h : StT wr gets rv f0 f1 f2 f3 f4 l2 l3 la lb lc ld v2 va vb W) (h3 : l3 = true) {g : Nat} {cs : Array Value} (eg : vb = .pointer (some ⟨g, 0, none⟩)) (hg : wr.heap.size <= g) (hc : W.heap[g]? = some (.cells cs 180 (0, 0))) : StT wr gets rv f0 f1 f2 f3 f4 l2 l3 la lb lc true v2 va vb (W.setRow g #[.bool f0, .int .i64 f1, .int .i64 f2, .int .i64 f3, .bool f4]) := by
 subst h3
 have hgr := setRow_grown W g #[.bool f0, .int .i64 f1, .int .i64 f2, .int .i64 f3, .bool f4]
 refine ⟨h.below.grown hgr h.below.size (fun k e => by injection e with e; omega), fun _ q => (by cases q), fun a => ?_, fun _ => ⟨g, eg, hg, by rw [if_pos rfl]; exact setRow_heap _ _ _ _ _ _ hc⟩⟩
 obtain ⟨g2, q1, q2, q3⟩ := h.b8 a
 refine ⟨g2, q1, q2, (hgr.block g2 (lt_of_block q3) (fun e => ?_)).trans q3⟩
 injection e with e
 subst e
 rw [hc] at q3
 injection q3 with q3
 injection q3 with _ q3
 exact absurd q3 (by decide)
end
set_option maxRecDepth 100000 in
set_option maxHeartbeats 8000000 in
theorem kstep_any (Y : KLay) (Ks : KSt) (G : Nat -> Prop) (m : Int) (w : World) (h : KAt w Y Ks G) (hk : KOk Ks m) (i : Nat) (hi : i < Ks.seats.length) :
  Calls Tryz.prog 46 #[.pointer (some ⟨Y.kb, 0, none⟩), .int .i64 i] w fun e w' => ∃ a n c, e = .returned (.slice a n c) /\ ∃ G', KAt w' Y (stepK Ks i).1 G' /\ Moves G G' w w' /\ EvRow w' w.heap.size (.slice a n c) (stepK Ks i).2 /\ Off (.slice a n c) G' := by
 have HA := Lib.hid h
 have HI0 := Lib.hid hi
 have HK0 := Lib.hid hk
 have kb14 := h.cell 14 Y.sv rfl
 obtain ⟨sa, sc, hsv, hse⟩ := h.seats
 obtain ⟨sb, hsb, y0⟩ := hse i hi
 subst hsb
 have yr := h.ringPtr hi
 unfold ptrV at y0
 obtain ⟨n, hn⟩ : ∃ n, n = Ks.seats.length := ⟨_, rfl⟩
 rw [<- hn] at hsv
 rw [hsv] at kb14
 have hin : i < n := by rw [hn]; exact hi
 have hin2 : (i : Int) < (n : Int) := by omega
 clear h hk hse hsv hn hi
 go_enter Tryz.func46, Tryz.ntmps46
 go_wp2_with fail
 refine (ring_all _ 16 _ _ (HA.out.ring HI0.out)).mono ?_
 rintro e w1 ⟨v, rfl, hir, hb1⟩
 have hrl := (HA.out.ring HI0.out).len.1
 have HA1 := Lib.hid (HA.out.below hb1)
 have HB1 := Lib.hid hb1
 obtain ⟨inp, hinp⟩ : ∃ inp, inp = (Ks.seat i).inp := ⟨_, rfl⟩
 rw [<- hinp] at hir hrl
 have HIN := Lib.hid hinp
 obtain ⟨va, vc, rfl⟩ := own_shape hir
 have HIV := Lib.hid (hir.ints (by omega))
 clear hir hb1 hinp kb14 y0 yr
 obtain ⟨inw, hinw⟩ : ∃ inw, inw = inp.headD 0 := ⟨_, rfl⟩
 obtain ⟨nl, hnl⟩ : ∃ nl, nl = inp.length := ⟨_, rfl⟩
 rw [<- hnl]
 have HNL := Lib.hid hnl
 clear hnl
 go_upto_if 27 with (fail)
 go_cut [6] (fun s wx => s = .int .i64 inw /\ wx = w1)
 case first =>
  cases inp with
  | nil =>
   rw [show decide (0 < nl) = false from decide_eq_false (by have := HNL.out; simp at this; omega)]
   have hz : inw = 0 := hinw
   clear hinw
   go_wp2_with fail
   go_meet
   exact ⟨by rw [hz], rfl⟩
  | cons x r =>
   have hnp2 : 0 < nl := by have := HNL.out; simp only [List.length_cons] at this; omega
   rw [show decide (0 < nl) = true from decide_eq_true hnp2]
   obtain ⟨a', c', e, -, -, -, h4⟩ := HIV.out
   injection e with e1 e2 e3
   subst e1
   obtain ⟨b, off, rfl, hc⟩ := h4 (by simp)
   have z0 := hc 0 (by simp)
   unfold IntAt at z0
   simp only [Nat.zero_mul, Nat.add_zero, List.getElem_cons_zero] at z0
   have hz : inw = x := hinw
   have hnp : (0 : Int) < (nl : Int) := by omega
   clear hinw hc h4 e2 e3
   go_wp2_with fail
   go_meet
   exact ⟨by rw [hz], rfl⟩
 case rest =>
  obtain ⟨rfl, rfl⟩ := hcut
  have HIW := Lib.hid hinw
  clear hinw
  have hseat := HA1.out.seat HI0.out
  have HRG : Hid (∀ W, Below wc.heap.size wc W -> W.rangeAt (Y.sb i) 3 (vmCells (Ks.seat i).vm)) := Lib.hid (fun W hb => seat_range (keep_at hseat.1 hb))
  have HVM := Lib.hid hseat.2.2
  have kb15 := HA1.out.cell 15 (.pointer (some ⟨Y.pb, 0, none⟩)) rfl
  have y2 := HA1.out.codeC HI0.out
  have hcode := HA1.out.conf.2 i HI0.out
  have hst : stepK Ks i = (if (stepV (Ks.seat i).code (Ks.seat i).vm ((Ks.seat i).inp.headD 0) (outsS Ks.ports i) (getsS Ks.ports i)).2.1.fault = true then
    ((Ks.setSeat i { Ks.seat i with vm := (stepV (Ks.seat i).code (Ks.seat i).vm ((Ks.seat i).inp.headD 0) (outsS Ks.ports i) (getsS Ks.ports i)).1 }).setSeat i { (Ks.setSeat i { Ks.seat i with vm := (stepV (Ks.seat i).code (Ks.seat i).vm ((Ks.seat i).inp.headD 0) (outsS Ks.ports i) (getsS Ks.ports i)).1 }).seat i with loc := failS (Ks.seat i).loc }, failEv (Ks.seat i).loc)
   else ((chargeK (outsideK (Ks.setSeat i { Ks.seat i with vm := (stepV (Ks.seat i).code (Ks.seat i).vm ((Ks.seat i).inp.headD 0) (outsS Ks.ports i) (getsS Ks.ports i)).1 }) i (stepV (Ks.seat i).code (Ks.seat i).vm ((Ks.seat i).inp.headD 0) (outsS Ks.ports i) (getsS Ks.ports i)).2.1).1 i).1, (outsideK (Ks.setSeat i { Ks.seat i with vm := (stepV (Ks.seat i).code (Ks.seat i).vm ((Ks.seat i).inp.headD 0) (outsS Ks.ports i) (getsS Ks.ports i)).1 }) i (stepV (Ks.seat i).code (Ks.seat i).vm ((Ks.seat i).inp.headD 0) (outsS Ks.ports i) (getsS Ks.ports i)).2.1).2 ++ (chargeK (outsideK (Ks.setSeat i { Ks.seat i with vm := (stepV (Ks.seat i).code (Ks.seat i).vm ((Ks.seat i).inp.headD 0) (outsS Ks.ports i) (getsS Ks.ports i)).1 }) i (stepV (Ks.seat i).code (Ks.seat i).vm ((Ks.seat i).inp.headD 0) (outsS Ks.ports i) (getsS Ks.ports i)).2.1).1 i).2)) := rfl
  rw [<- HIN.out, <- HIW.out] at hst
  have hrl2 := stepV_len (Ks.seat i).code (Ks.seat i).vm inw (outsS Ks.ports i) (getsS Ks.ports i) HVM.out
  obtain ⟨vm, hvm⟩ : ∃ vm, vm = (Ks.seat i).vm := ⟨_, rfl⟩
  obtain ⟨cd, hcd⟩ : ∃ cd, cd = (Ks.seat i).code := ⟨_, rfl⟩
  obtain ⟨ou, hou⟩ : ∃ ou, ou = outsS Ks.ports i := ⟨_, rfl⟩
  obtain ⟨gets, hge⟩ : ∃ gets, gets = getsS Ks.ports i := ⟨_, rfl⟩
  obtain ⟨R, hR⟩ : ∃ R, R = stepV cd vm inw ou gets := ⟨_, rfl⟩
  rw [<- hvm] at HRG HVM
  rw [<- hcd] at hcode
  rw [<- hvm, <- hcd, <- hou, <- hge, <- hR] at hst hrl2
  obtain ⟨rv, ⟨f0, f1, f2, f3, f4⟩, er⟩ := R
  have HRR := Lib.hid hR
  have HST := Lib.hid hst
  have HRL := Lib.hid hrl2
  have HOU := Lib.hid hou
  have HGE := Lib.hid hge
  have HP8 := Lib.hid HK0.out.ports8.1
  have HGL : Hid (gets.length <= 8) := Lib.hid (by rw [hge]; unfold getsS; rw [List.length_map]; exact HP8.out)
  have HVL : Hid ((vmCells vm).length = 18) := Lib.hid (by simp [vmCells, HVM.out])
  obtain ⟨ca, cc, hcv⟩ : ∃ ca cc, Y.cv i = .slice ca cd.length cc := by obtain ⟨a', c', e, -⟩ := hcode; exact ⟨a', c', e⟩
  obtain ⟨cn, hcn⟩ : ∃ cn, cn = cd.length := ⟨_, rfl⟩
  rw [<- hcn] at hcv
  rw [hcv] at y2 hcode
  have HCD := Lib.hid hcode
  clear hseat hcode hst hrl2 hvm hcd hou hge hR hcv hcn
  have HS0 := Lib.hid (show ∀ a b c, StT wc gets rv f0 f1 f2 f3 f4 false false false false false false a b c wc.drew from fun a b c => ⟨below_drew (Below.refl _ _), fun q => (by cases q), fun q => (by cases q), fun q => (by cases q)⟩)
  go_wp2_with fail
  refine region_inv0 rfl (by kernel_rfl) (WInv2 (StV Y i ca cn cc vm inw ou rv f0 f1 f2 f3 f4 er) (fun L vs W => StT wc gets rv f0 f1 f2 f3 f4 (L 20) (L 21) (L 26) (L 27) (L 28) (L 29) (vs 20) (vs 26) (vs 27) W)) (fun vs h0 => ⟨(fun i h => by cases h), HS0.out _ _ _⟩) ?_ ?_
  ·simp (config := { maxSteps := 4000000 }) only [List.map, putAll, Act.put, InvE, List.setIfInBounds_toArray, List.set_cons_succ, List.set_cons_zero, Nat.reduceAdd]
   refine ⟨?_, ?_, ?_, ?_, ?_, ?_, ?_, ?_, ?_, ?_, ?_, ?_, ?_, ?_, ?_, ?_, ?_, ?_, ?_, ?_, ?_, ?_, ?_, ?_, ?_, ?_, ?_, ?_, ?_, ?_, ?_, trivial⟩
   all_goals intro L vs W hI hi hn hcl K hK
   ·rw [if_pos (by simp [Region.wanted])]
    have HK := Lib.hid (fun (v : Value) (h : v = .pointer (some ⟨Y.sb i, 0, none⟩)) => hK v W ⟨pv_upd hI.pv h, hI.st⟩)
    clear hK hI hn hcl hi
    go_simp
    exact HK.out _ rfl
   ·have r0 : vs 0 = _ := hI.pv 0 (hn 0 rfl)
    rw [if_pos (by simp [Region.wanted])]
    simp only [r0] at hK |-
    have HK := Lib.hid (fun (v : Value) (h : v = .pointer (some ⟨Y.sb i, 0, none⟩)) => hK v W ⟨pv_upd hI.pv h, hI.st⟩)
    clear hK hI hn hcl hi
    go_simp
    exact HK.out _ rfl
   ·have r1 : vs 1 = _ := hI.pv 1 (hn 1 rfl)
    rw [if_pos (by simp [Region.wanted])]
    simp only [r1] at hK |-
    have HK := Lib.hid (fun (v : Value) (h : v = .pointer (some ⟨Y.sb i, 2, none⟩)) => hK v W ⟨pv_upd hI.pv h, hI.st⟩)
    clear hK hI hn hcl hi
    go_simp
    exact HK.out _ rfl
   ·have r2 : vs 2 = _ := hI.pv 2 (hn 2 rfl)
    rw [if_pos (by simp [Region.wanted])]
    have hS := hI.st
    obtain ⟨hb, -⟩ := hS
    have b3_0 := Ext.below hb _ _ y2
    clear hb
    simp only [r2] at hK |-
    have HK := Lib.hid (fun (v : Value) (h : v = .slice ca cn cc) => hK v W ⟨pv_upd hI.pv h, hI.st⟩)
    clear hK hI hn hcl hi
    go_simp
    exact HK.out _ rfl
   ·rw [if_pos (by simp [Region.wanted])]
    have HK := Lib.hid (fun (v : Value) (h : v = .pointer (some ⟨Y.sb i, 0, none⟩)) => hK v W ⟨pv_upd hI.pv h, hI.st⟩)
    clear hK hI hn hcl hi
    go_simp
    exact HK.out _ rfl
   ·have r4 : vs 4 = _ := hI.pv 4 (hn 4 rfl)
    rw [if_pos (by simp [Region.wanted])]
    simp only [r4] at hK |-
    have HK := Lib.hid (fun (v : Value) (h : v = .pointer (some ⟨Y.sb i, 0, none⟩)) => hK v W ⟨pv_upd hI.pv h, hI.st⟩)
    clear hK hI hn hcl hi
    go_simp
    exact HK.out _ rfl
   ·have r5 : vs 5 = _ := hI.pv 5 (hn 5 rfl)
    rw [if_pos (by simp [Region.wanted])]
    simp only [r5] at hK |-
    have HK := Lib.hid (fun (v : Value) (h : v = .pointer (some ⟨Y.sb i, 3, none⟩)) => hK v W ⟨pv_upd hI.pv h, hI.st⟩)
    clear hK hI hn hcl hi
    go_simp
    exact HK.out _ rfl
   ·have r6 : vs 6 = _ := hI.pv 6 (hn 6 rfl)
    rw [if_pos (by simp [Region.wanted])]
    simp only [r6] at hK |-
    obtain ⟨hb, -⟩ := hI.st
    refine wp_load_mid 69 _ rfl (Y.sb i) 3 rfl (vmCells vm) _ (HRG.out W hb) Tryz.underlying69 rfl (by rw [HVL.out]; kernel_rfl) ?_
    exact hK _ W ⟨pv_upd hI.pv rfl, hI.st⟩
   ·rw [if_pos (by simp [Region.wanted])]
    have HK := Lib.hid (fun (v : Value) (h : v = .int .i64 inw) => hK v W ⟨pv_upd hI.pv h, hI.st⟩)
    clear hK hI hn hcl hi
    go_simp
    exact HK.out _ rfl
   ·rw [if_pos (by simp [Region.wanted])]
    have HK := Lib.hid (fun (v : Value) (h : v = .pointer (some ⟨Y.kb, 0, none⟩)) => hK v W ⟨pv_upd hI.pv h, hI.st⟩)
    clear hK hI hn hcl hi
    go_simp
    exact HK.out _ rfl
   ·have r9 : vs 9 = _ := hI.pv 9 (hn 9 rfl)
    rw [if_pos (by simp [Region.wanted])]
    simp only [r9] at hK |-
    have HK := Lib.hid (fun (v : Value) (h : v = .pointer (some ⟨Y.kb, 0, none⟩)) => hK v W ⟨pv_upd hI.pv h, hI.st⟩)
    clear hK hI hn hcl hi
    go_simp
    exact HK.out _ rfl
   ·have r10 : vs 10 = _ := hI.pv 10 (hn 10 rfl)
    rw [if_pos (by simp [Region.wanted])]
    simp only [r10] at hK |-
    have HK := Lib.hid (fun (v : Value) (h : v = .pointer (some ⟨Y.kb, 15, none⟩)) => hK v W ⟨pv_upd hI.pv h, hI.st⟩)
    clear hK hI hn hcl hi
    go_simp
    exact HK.out _ rfl
   ·have r11 : vs 11 = _ := hI.pv 11 (hn 11 rfl)
    rw [if_pos (by simp [Region.wanted])]
    have hS := hI.st
    obtain ⟨hb, -⟩ := hS
    have b12_0 := Ext.below hb _ _ kb15
    clear hb
    simp only [r11] at hK |-
    have HK := Lib.hid (fun (v : Value) (h : v = .pointer (some ⟨Y.pb, 0, none⟩)) => hK v W ⟨pv_upd hI.pv h, hI.st⟩)
    clear hK hI hn hcl hi
    go_simp
    exact HK.out _ rfl
   ·rw [if_pos (by simp [Region.wanted])]
    have HK := Lib.hid (fun (v : Value) (h : v = .int .i64 i) => hK v W ⟨pv_upd hI.pv h, hI.st⟩)
    clear hK hI hn hcl hi
    go_simp
    exact HK.out _ rfl
   ·have r12 : vs 12 = _ := hI.pv 12 (hn 12 rfl)
    have r13 : vs 13 = _ := hI.pv 13 (hn 13 rfl)
    rw [if_pos (by simp [Region.wanted])]
    simp only [r12, r13] at hK |-
    have HI := Lib.hid hI.st
    have HP := Lib.hid hI.pv
    have HH := Lib.hid hi
    have HK := Lib.hid hK
    clear hK hI hn hcl hi
    go_simp
    refine (ports_outs _ _ _ _ i W (HA1.out.below HI.out.below).port HP8.out).mono ?_
    rintro e w5 ⟨rfl, hb5⟩
    rw [<- HOU.out]
    exact HK.out _ w5 ⟨pv_upd HP.out rfl, HI.out.step hb5⟩
   ·rw [if_pos (by simp [Region.wanted])]
    have HK := Lib.hid (fun (v : Value) (h : v = .pointer (some ⟨Y.kb, 0, none⟩)) => hK v W ⟨pv_upd hI.pv h, hI.st⟩)
    clear hK hI hn hcl hi
    go_simp
    exact HK.out _ rfl
   ·have r15 : vs 15 = _ := hI.pv 15 (hn 15 rfl)
    rw [if_pos (by simp [Region.wanted])]
    simp only [r15] at hK |-
    have HK := Lib.hid (fun (v : Value) (h : v = .pointer (some ⟨Y.kb, 0, none⟩)) => hK v W ⟨pv_upd hI.pv h, hI.st⟩)
    clear hK hI hn hcl hi
    go_simp
    exact HK.out _ rfl
   ·have r16 : vs 16 = _ := hI.pv 16 (hn 16 rfl)
    rw [if_pos (by simp [Region.wanted])]
    simp only [r16] at hK |-
    have HK := Lib.hid (fun (v : Value) (h : v = .pointer (some ⟨Y.kb, 15, none⟩)) => hK v W ⟨pv_upd hI.pv h, hI.st⟩)
    clear hK hI hn hcl hi
    go_simp
    exact HK.out _ rfl
   ·have r17 : vs 17 = _ := hI.pv 17 (hn 17 rfl)
    rw [if_pos (by simp [Region.wanted])]
    have hS := hI.st
    obtain ⟨hb, -⟩ := hS
    have b18_0 := Ext.below hb _ _ kb15
    clear hb
    simp only [r17] at hK |-
    have HK := Lib.hid (fun (v : Value) (h : v = .pointer (some ⟨Y.pb, 0, none⟩)) => hK v W ⟨pv_upd hI.pv h, hI.st⟩)
    clear hK hI hn hcl hi
    go_simp
    exact HK.out _ rfl
   ·rw [if_pos (by simp [Region.wanted])]
    have HK := Lib.hid (fun (v : Value) (h : v = .int .i64 i) => hK v W ⟨pv_upd hI.pv h, hI.st⟩)
    clear hK hI hn hcl hi
    go_simp
    exact HK.out _ rfl
   ·have r18 : vs 18 = _ := hI.pv 18 (hn 18 rfl)
    have r19 : vs 19 = _ := hI.pv 19 (hn 19 rfl)
    rw [if_pos (by simp [Region.wanted])]
    simp only [r18, r19] at hK |-
    have HI := Lib.hid hI.st
    have HP := Lib.hid hI.pv
    have HH := Lib.hid hi
    have HK := Lib.hid hK
    clear hK hI hn hcl hi
    go_simp
    refine (ports_gets _ _ _ _ i W (HA1.out.below HI.out.below).port HP8.out).mono ?_
    rintro e w5 ⟨v, rfl, hr, hb5⟩
    rw [<- HGE.out] at hr
    exact HK.out v w5 ⟨pv_upd HP.out trivial, (HI.out.step hb5).took (hr.ints (by have := HGL.out; omega))⟩
   ·have r3 : vs 3 = _ := hI.pv 3 (hn 3 rfl)
    have r7 : vs 7 = _ := hI.pv 7 (hn 7 rfl)
    have r8 : vs 8 = _ := hI.pv 8 (hn 8 rfl)
    have r14 : vs 14 = _ := hI.pv 14 (hn 14 rfl)
    rw [if_pos (by simp [Region.wanted])]
    simp only [r3, r7, r8, r14] at hK |-
    have hg := hI.st.row (hn 20 rfl) hi
    have HG := Lib.hid hg
    clear hg
    have HI := Lib.hid hI.st
    have HP := Lib.hid hI.pv
    have HH := Lib.hid hi
    have HK := Lib.hid hK
    clear hK hI hn hcl hi
    go_simp
    refine (step_any cd (.slice ca cn cc) vm inw ou gets _ W (HCD.out.ext (Ext.below HI.out.below)) HVM.out HG.out).mono ?_
    rw [<- HRR.out]
    rintro e w5 ⟨rfl, -, hb5⟩
    exact HK.out _ w5 ⟨pv_upd HP.out rfl, (HI.out.step hb5).went⟩
   ·have r21 : vs 21 = _ := hI.pv 21 (hn 21 rfl)
    rw [if_pos (by simp [Region.wanted])]
    simp only [r21] at hK |-
    have HK := Lib.hid (fun (v : Value) (h : v = .tuple #[.agg (vmCells rv).toArray, .agg #[.bool f0, .int .i64 f1, .int .i64 f2, .int .i64 f3, .bool f4], .int .i64 er]) => hK v W ⟨pv_upd hI.pv h, hI.st⟩)
    clear hK hI hn hcl hi
    go_simp
    exact HK.out _ rfl
   ·have r22 : vs 22 = _ := hI.pv 22 (hn 22 rfl)
    rw [if_pos (by simp [Region.wanted])]
    simp only [r22] at hK |-
    have HK := Lib.hid (fun (v : Value) (h : v = .agg (vmCells rv).toArray) => hK v W ⟨pv_upd hI.pv h, hI.st⟩)
    clear hK hI hn hcl hi
    go_simp
    exact HK.out _ rfl
   ·have r22 : vs 22 = _ := hI.pv 22 (hn 22 rfl)
    rw [if_pos (by simp [Region.wanted])]
    simp only [r22] at hK |-
    have HK := Lib.hid (fun (v : Value) (h : v = .agg #[.bool f0, .int .i64 f1, .int .i64 f2, .int .i64 f3, .bool f4]) => hK v W ⟨pv_upd hI.pv h, hI.st⟩)
    clear hK hI hn hcl hi
    go_simp
    exact HK.out _ rfl
   ·have r22 : vs 22 = _ := hI.pv 22 (hn 22 rfl)
    rw [if_pos (by simp [Region.wanted])]
    simp only [r22] at hK |-
    have HK := Lib.hid (fun (v : Value) (h : v = .int .i64 er) => hK v W ⟨pv_upd hI.pv h, hI.st⟩)
    clear hK hI hn hcl hi
    go_simp
    exact HK.out _ rfl
   ·rw [if_pos (by simp [Region.wanted])]
    have hz : L 28 = false := by
     cases h : L 28
     ·rfl
     ·exact absurd (hcl 28 _ rfl h 26 rfl) (Bool.eq_false_iff.1 hi)
    have HZ := Lib.hid hz
    clear hz
    have HI := Lib.hid hI.st
    have HP := Lib.hid hI.pv
    have HH := Lib.hid hi
    have HK := Lib.hid hK
    clear hK hI hn hcl hi
    go_simp
    exact HK.out _ _ ⟨pv_upd HP.out trivial, HI.out.new8 HZ.out⟩
   ·rw [if_pos (by simp [Region.wanted])]
    have hz : L 29 = false := by
     cases h : L 29
     ·rfl
     ·exact absurd (hcl 29 _ rfl h 27 rfl) (Bool.eq_false_iff.1 hi)
    have HZ := Lib.hid hz
    clear hz
    have HI := Lib.hid hI.st
    have HP := Lib.hid hI.pv
    have HH := Lib.hid hi
    have HK := Lib.hid hK
    clear hK hI hn hcl hi
    go_simp
    exact HK.out _ _ ⟨pv_upd HP.out trivial, HI.out.new9 HZ.out⟩
   ·have r23 : vs 23 = _ := hI.pv 23 (hn 23 rfl)
    rw [if_pos (by simp [Region.wanted])]
    simp only [r23] at hK |-
    obtain ⟨g, eg, hg1, hg2⟩ := hI.st.b8 (hn 26 rfl)
    rw [hi] at hg2
    simp only [Bool.false_eq_true, if_false] at hg2
    skip
    refine wp_store_row 69 _ _ rfl g (vmCells rv).toArray (by simpa [Act.eval] using eg) rfl _ _ hg2 (by rw [vmSize HRL.out]; kernel_rfl) (by rw [vmSize HRL.out]; rfl) (vm_one rv) ?_
    exact hK undef _ ⟨pv_upd hI.pv trivial, hI.st.put8 (hcl 22 _ rfl (hcl 23 _ rfl (hn 23 rfl) 22 rfl) 21 rfl) eg hg1 hg2⟩
   ·have r24 : vs 24 = _ := hI.pv 24 (hn 24 rfl)
    rw [if_pos (by simp [Region.wanted])]
    simp only [r24] at hK |-
    obtain ⟨g, eg, hg1, hg2⟩ := hI.st.b9 (hn 27 rfl)
    rw [hi] at hg2
    simp only [Bool.false_eq_true, if_false] at hg2
    refine wp_store_row 180 _ _ rfl g #[.bool f0, .int .i64 f1, .int .i64 f2, .int .i64 f3, .bool f4] (by simpa [Act.eval] using eg) rfl _ _ hg2 (by kernel_rfl) rfl (by simp [Value.oneCell']) ?_
    exact hK undef _ ⟨pv_upd hI.pv trivial, hI.st.put9 (hcl 22 _ rfl (hcl 24 _ rfl (hn 24 rfl) 22 rfl) 21 rfl) eg hg1 hg2⟩
   ·have r25 : vs 25 = _ := hI.pv 25 (hn 25 rfl)
    rw [if_pos (by simp [Region.wanted])]
    simp only [r25] at hK |-
    have HK := Lib.hid (fun (v : Value) (h : v = .int .i64 er) => hK v W ⟨pv_upd hI.pv h, hI.st⟩)
    clear hK hI hn hcl hi
    go_simp
    exact HK.out _ rfl
  ·intro vs W hI
   simp only [List.map, putAll, Act.put, List.setIfInBounds_toArray, List.set_cons_succ, List.set_cons_zero, Nat.reduceAdd]
   have hS := hI.st
   have r0 : vs 0 = _ := hI.pv 0 (by simp)
   have r1 : vs 1 = _ := hI.pv 1 (by simp)
   have r2 : vs 2 = _ := hI.pv 2 (by simp)
   have r3 : vs 3 = _ := hI.pv 3 (by simp)
   have r4 : vs 4 = _ := hI.pv 4 (by simp)
   have r5 : vs 5 = _ := hI.pv 5 (by simp)
   have r6 : vs 6 = _ := hI.pv 6 (by simp)
   have r7 : vs 7 = _ := hI.pv 7 (by simp)
   have r8 : vs 8 = _ := hI.pv 8 (by simp)
   have r9 : vs 9 = _ := hI.pv 9 (by simp)
   have r10 : vs 10 = _ := hI.pv 10 (by simp)
   have r11 : vs 11 = _ := hI.pv 11 (by simp)
   have r12 : vs 12 = _ := hI.pv 12 (by simp)
   have r13 : vs 13 = _ := hI.pv 13 (by simp)
   have r14 : vs 14 = _ := hI.pv 14 (by simp)
   have r15 : vs 15 = _ := hI.pv 15 (by simp)
   have r16 : vs 16 = _ := hI.pv 16 (by simp)
   have r17 : vs 17 = _ := hI.pv 17 (by simp)
   have r18 : vs 18 = _ := hI.pv 18 (by simp)
   have r19 : vs 19 = _ := hI.pv 19 (by simp)
   have r21 : vs 21 = _ := hI.pv 21 (by simp)
   have r22 : vs 22 = _ := hI.pv 22 (by simp)
   have r23 : vs 23 = _ := hI.pv 23 (by simp)
   have r24 : vs 24 = _ := hI.pv 24 (by simp)
   have r25 : vs 25 = _ := hI.pv 25 (by simp)
   have r30 : vs 30 = _ := hI.pv 30 (by simp)
   simp only [r0, r1, r2, r3, r4, r5, r6, r7, r8, r9, r10, r11, r12, r13, r14, r15, r16, r17, r18, r19, r21, r22, r23, r24, r25, r30]
   clear hI r0 r1 r2 r3 r4 r5 r6 r7 r8 r9 r10 r11 r12 r13 r14 r15 r16 r17 r18 r19 r21 r22 r23 r24 r25 r30
   obtain ⟨hb, -, hb8, hb9⟩ := hS
   obtain ⟨g8, e8, k8, c8⟩ := hb8 rfl
   obtain ⟨g9, e9, k9, c9⟩ := hb9 rfl
   rw [if_pos (by simp)] at c8 c9
   simp only [e8, e9]
   have hA := HA1.out.below hb
   have hMw := (Moves.of_below (G := G) (HB1.out.trans (hb.mono HB1.out.size)))
   obtain ⟨G2, g1, g2⟩ := hA.putVm HI0.out HRL.out
   have hth : W.there (Y.sb i) 3 (vmCells rv).toArray.size := by rw [vmSize HRL.out]; exact hA.there HI0.out
   have hG9 : ¬ G g9 := fun q => by have := HA1.out.lt q; omega
   have hc9 := g2.at c9 hG9
   have HTH := Lib.hid hth
   have HC8 := Lib.hid c8
   have HA2 := Lib.hid g1
   have HM2 := Lib.hid (hMw.trans g2)
   have HC9 := Lib.hid hc9
   have HM1 := Lib.hid (show w.heap.size <= W.heap.size by have := HB1.out.size; have := hb.size; omega)
   obtain ⟨wz, hwz⟩ : ∃ wz, wz = W.setCells (Y.sb i) 3 (vmCells rv) := ⟨_, rfl⟩
   rw [<- hwz] at HA2 HM2 HC9
   have d4 := BlockIs.of HC9.out.1 4 (.bool f4) rfl
   obtain ⟨K1, hK1⟩ : ∃ K1, K1 = Ks.setSeat i { Ks.seat i with vm := rv } := ⟨_, rfl⟩
   have hl1 : i < K1.seats.length := by rw [hK1, seats_set]; exact HI0.out
   have hs1 : (K1.seat i).loc = (Ks.seat i).loc := by rw [hK1, seat_set _ _ _ _ HI0.out, if_pos rfl]
   rw [<- hK1] at HA2
   have hok : KOk K1 m := by rw [hK1]; exact HK0.out.setSeat i HI0.out (HK0.out.loc i HI0.out)
   have HOK := Lib.hid hok
   have HL1 := Lib.hid hl1
   have HS1 := Lib.hid hs1
   have hst := HST.out
   rw [<- hK1] at hst
   have HST2 := Lib.hid hst
   clear hb hb8 hb9 hA hMw g1 g2 hth hG9 hc9 c8 c9 k8 k9 e8 e9 hl1 hs1 hok hst hK1 kb15 y2
   have yl := HA2.out.locPtr HL1.out
   have d0 := BlockIs.of HC9.out.1 0 (.bool f0) rfl
   have d1 := BlockIs.of HC9.out.1 1 (.int .i64 f1) rfl
   have d2 := BlockIs.of HC9.out.1 2 (.int .i64 f2) rfl
   have d3 := BlockIs.of HC9.out.1 3 (.int .i64 f3) rfl
   have hMwz := HM2.out.size
   cases f4
   ·have HE := Lib.hid (HST2.out.trans (by rw [if_neg (by simp)]))
    clear yl
    go_wp2_with (first | (refine wpList_load_row rfl 69 _ rfl g8 rfl _ _ _ _ HC8.out Tryz.underlying69 rfl (by rw [vmSize HRL.out]; kernel_rfl) ?_) | (refine wpList_store_mid rfl 69 _ _ rfl (Y.sb i) 3 (vmCells rv).toArray rfl rfl HTH.out (by rw [vmSize HRL.out]; kernel_rfl) (vm_one rv) ?_; simp only [List.toList_toArray]; rw [<- hwz]; clear hwz) | fail)
    refine (koutside_any Y K1 G2 m _ HA2.out HOK.out i HL1.out ⟨f0, f1, f2, f3, false⟩).mono ?_
    rintro e w3 ⟨ra, rn, rc, rfl, G3, g1, g2, ho, hof⟩
    have hok3 := outsideK_ok HOK.out i HL1.out ⟨f0, f1, f2, f3, false⟩
    have hle := outsideK_le K1 i ⟨f0, f1, f2, f3, false⟩
    obtain ⟨O, hO⟩ : ∃ O, O = outsideK K1 i ⟨f0, f1, f2, f3, false⟩ := ⟨_, rfl⟩
    have HEO := Lib.hid (show stepK Ks i = ((chargeK O.1 i).1, O.2 ++ (chargeK O.1 i).2) from by rw [hO]; exact HE.out)
    rw [<- hO] at g1 ho hok3 hle
    have HA3 := Lib.hid g1
    have HM3 := Lib.hid (HM2.out.trans g2)
    have HO3 := Lib.hid (And.intro ho hof)
    have HOK3 := Lib.hid hok3.1
    have HL3 := Lib.hid (show i < O.1.seats.length by rw [hok3.2]; exact HL1.out)
    have hs3 := g2.size
    clear g1 g2 ho hof hok3 hO d0 d1 d2 d3 d4
    go_wp2_with fail
    refine (kcharge_any Y O.1 G3 m _ HA3.out HOK3.out i HL3.out).mono ?_
    rintro e w4 ⟨qa, qn, qc, rfl, G4, g1, g2, ho2, hof2⟩
    have hle2 := chargeK_le O.1 i
    obtain ⟨C, hC⟩ : ∃ C, C = chargeK O.1 i := ⟨_, rfl⟩
    rw [<- hC] at g1 ho2 hle2 HEO
    have hr := g2.own_row HO3.out.1 HO3.out.2
    have hwb : w.heap.size <= wz.heap.size := hMwz
    have hr1 := own_low hr.1 hwb
    have hrn := own_len hr.1
    have hqn := own_len ho2
    have HA4 := Lib.hid g1
    have HM4 := Lib.hid (HM3.out.trans g2)
    have HR1 := Lib.hid hr1
    have HF1 := Lib.hid hr.2
    have HSRC := Lib.hid (own_src ho2)
    have HLE := Lib.hid (And.intro hrn hqn)
    have h63 : rn + qn <= 10 := by omega
    clear g1 g2 ho2 hof2 hC hr hr1 hwb hrn hqn hle hle2
    go_wp2_with (at_builtin; refine wpList_onto_at rfl (.tmp 75) (.tmp 78) 39 rfl w.heap.size 45 _ 4 32 Tryz.underlying39 infoEvent rfl (by decide) (.slice ra rn rc) _ _ rfl HR1.out (.slice qa qn qc) rfl _ _ HSRC.out (evCells_len _) (evCells_one _) (by rw [<- HLE.out.1, <- HLE.out.2]; simp only [maxLen]; omega) (by rw [<- HLE.out.1, <- HLE.out.2]; omega) HM4.out.size ?_)
    intro v5 w5 hown hg5 hnb
    have happ := HA4.out.app2 HM4.out HR1.out (Nat.le_refl _) HF1.out hg5 hnb
    obtain ⟨xa, xc, rfl⟩ := own_shape hown
    have HAx := Lib.hid happ.1
    have HMx := Lib.hid happ.2.1
    have HFx := Lib.hid happ.2.2
    have HOx := Lib.hid (evRow_app hown rfl rfl)
    clear hown hg5 hnb happ
    go_wp2_with fail
    go_ret
    exact ⟨_, _, _, rfl, G4, by rw [HEO.out]; exact HAx.out, HMx.out, by rw [HEO.out]; exact HOx.out, HFx.out⟩
   ·have HE := Lib.hid (HST2.out.trans (by rw [if_pos rfl]))
    go_wp2_with (first | (refine wpList_load_row rfl 69 _ rfl g8 rfl _ _ _ _ HC8.out Tryz.underlying69 rfl (by rw [vmSize HRL.out]; kernel_rfl) ?_) | (refine wpList_store_mid rfl 69 _ _ rfl (Y.sb i) 3 (vmCells rv).toArray rfl rfl HTH.out (by rw [vmSize HRL.out]; kernel_rfl) (vm_one rv) ?_; simp only [List.toList_toArray]; rw [<- hwz]; clear hwz) | fail)
    refine (k_fail Y K1 G2 i m _ HA2.out HL1.out (HOK.out.loc i HL1.out)).mono ?_
    rintro e w3 ⟨ra, rn, rc, rfl, G3, g1, g2, ho, hof⟩
    rw [HS1.out] at g1 ho
    have HA3 := Lib.hid g1
    have HM3 := Lib.hid (HM2.out.trans g2)
    have HO3 := Lib.hid (And.intro (own_low ho hMwz) hof)
    clear g1 g2 ho hof
    go_wp2_with fail
    go_ret
    exact ⟨_, _, _, rfl, G3, by rw [HE.out]; exact HA3.out, HM3.out, by rw [HE.out]; exact HO3.out.1, HO3.out.2⟩
end Go.Proofs.YtooeeiiiflfckaaGreat
/- package kernel: Now, Ledger, Mode, Jobs, Vm. -/
namespace Go.Proofs.YtooeeiiiflfckaaGreat
open Go.RowKit
theorem results_vm {tmps : Array Value} {w : World} {gb : Nat} {cs : Array Value} {x : Value} (h1 : tmps[4]? = some (.pointer (some ⟨gb, 0, none⟩))) (h3 : tmps[5]? = some x) (h4 : w.heap[gb]? = some (.cells cs 69 (0, 0))) (h6 : cs.size = 18) :
  (results Tryz.f24 tmps).run Tryz.prog w = .ok (.tuple #[.agg cs, x]) w := by
 have q1 := run_loadVar_row (P := Tryz.prog) w gb _ 69 _ _ _ h4 Tryz.underlying69 rfl (by rw [h6]; kernel_rfl)
 simp [results, Tryz.results24, asAddr, h1, h3, q1]
theorem know_any (Y : KLay) (Ks : KSt) (G : Nat -> Prop) (w : World) (h : KAt w Y Ks G) :
  Calls Tryz.prog 22 #[.pointer (some ⟨Y.kb, 0, none⟩)] w fun e w' => e = .returned (.int .i64 Ks.now) /\ w' = w := by
 have kb0 := h.cell 0 (.int .i64 Ks.now) rfl
 clear h
 go_enter Tryz.func22, Tryz.ntmps22
 go_wp2_with fail
 go_ret
 exact ⟨rfl, rfl⟩
theorem kled_any (Y : KLay) (Ks : KSt) (G : Nat -> Prop) (w : World) (h : KAt w Y Ks G) :
  Calls Tryz.prog 23 #[.pointer (some ⟨Y.kb, 0, none⟩)] w fun e w' => e = .returned (ledV Ks.led) /\ Below w.heap.size w w' := by
 obtain ⟨wa, ga, hw_wa, hg_ga, hb_wa, hk_ga, hs_wa⟩ := alloc_all w (.cells #[.int .i64 0, .int .i64 0, .int .i64 0, .int .i64 0] 63)
 have hA := h.below hb_wa
 have kb2 := hA.cell 2 (.int .i64 Ks.led.idle) rfl
 have kb3 := hA.cell 3 (.int .i64 Ks.led.dealt) rfl
 have kb4 := hA.cell 4 (.int .i64 Ks.led.lost) rfl
 have kb5 := hA.cell 5 (.int .i64 Ks.led.last) rfl
 obtain ⟨wz, hw_wz⟩ : ∃ wz, wz = put4 wa ga (.int .i64 Ks.led.idle) (.int .i64 Ks.led.dealt) (.int .i64 Ks.led.lost) (.int .i64 Ks.led.last) := ⟨_, rfl⟩
 have hk_wz := put4_at hk_ga (.int .i64 Ks.led.idle) (.int .i64 Ks.led.dealt) (.int .i64 Ks.led.lost) (.int .i64 Ks.led.last)
 have hg_wz := put4_grown wa ga (.int .i64 Ks.led.idle) (.int .i64 Ks.led.dealt) (.int .i64 Ks.led.lost) (.int .i64 Ks.led.last)
 rw [<- hw_wz] at hk_wz hg_wz
 unfold put4 at hw_wz
 have o_wz_0 := BlockIs.of hk_ga 0 _ rfl
 have o_wz_1 := BlockIs.of hk_ga 1 _ rfl
 have o_wz_2 := BlockIs.of hk_ga 2 _ rfl
 have o_wz_3 := BlockIs.of hk_ga 3 _ rfl
 have f_wz := thaw hk_ga
 have e_wz_0 := BlockIs.of hk_wz 0 _ rfl
 have e_wz_1 := BlockIs.of hk_wz 1 _ rfl
 have e_wz_2 := BlockIs.of hk_wz 2 _ rfl
 have e_wz_3 := BlockIs.of hk_wz 3 _ rfl
 have HBZ := Lib.hid (bput hb_wa hg_wz (by omega) (Nat.le_refl _))
 clear h hA hk_wz hg_wz hb_wa hk_ga
 go_enter Tryz.func23, Tryz.ntmps23
 go_upto_region 3 with (fail)
 rw [<- hw_wa]
 (try rw [<- hg_ga])
 clear hw_wa hg_ga hs_wa
 go_wp2_with (first | (rw [<- hw_wz]; clear hw_wz) | fail)
 refine bodyPost_ret (v := ledV Ks.led) (by simp [results, Tryz.results23, go_sem, e_wz_0, e_wz_1, e_wz_2, e_wz_3, ledV]) rfl ⟨rfl, HBZ.out⟩
theorem kmode_any (Y : KLay) (Ks : KSt) (G : Nat -> Prop) (w : World) (h : KAt w Y Ks G) :
  Calls Tryz.prog 30 #[.pointer (some ⟨Y.kb, 0, none⟩)] w fun e w' => e = .returned (modV Ks.mode) /\ Below w.heap.size w w' := by
 obtain ⟨wa, ga, hw_wa, hg_ga, hb_wa, hk_ga, hs_wa⟩ := alloc_all w (.cells #[.int .i64 0, .int .i64 0, .bool false] 87)
 have hA := h.below hb_wa
 have kb6 := hA.cell 6 (.int .i64 Ks.mode.level) rfl
 have kb7 := hA.cell 7 (.int .i64 Ks.mode.quiet) rfl
 have kb8 := hA.cell 8 (.bool Ks.mode.loud) rfl
 obtain ⟨wz, hw_wz⟩ : ∃ wz, wz = put3 wa ga (.int .i64 Ks.mode.level) (.int .i64 Ks.mode.quiet) (.bool Ks.mode.loud) := ⟨_, rfl⟩
 have hk_wz := put3_at hk_ga (.int .i64 Ks.mode.level) (.int .i64 Ks.mode.quiet) (.bool Ks.mode.loud)
 have hg_wz := put3_grown wa ga (.int .i64 Ks.mode.level) (.int .i64 Ks.mode.quiet) (.bool Ks.mode.loud)
 rw [<- hw_wz] at hk_wz hg_wz
 unfold put3 at hw_wz
 have o_wz_0 := BlockIs.of hk_ga 0 _ rfl
 have o_wz_1 := BlockIs.of hk_ga 1 _ rfl
 have o_wz_2 := BlockIs.of hk_ga 2 _ rfl
 have f_wz := thaw hk_ga
 have e_wz_0 := BlockIs.of hk_wz 0 _ rfl
 have e_wz_1 := BlockIs.of hk_wz 1 _ rfl
 have e_wz_2 := BlockIs.of hk_wz 2 _ rfl
 have HBZ := Lib.hid (bput hb_wa hg_wz (by omega) (Nat.le_refl _))
 clear h hA hk_wz hg_wz hb_wa hk_ga
 go_enter Tryz.func30, Tryz.ntmps30
 go_upto_region 3 with (fail)
 rw [<- hw_wa]
 (try rw [<- hg_ga])
 clear hw_wa hg_ga hs_wa
 go_wp2_with (first | (rw [<- hw_wz]; clear hw_wz) | fail)
 refine bodyPost_ret (v := modV Ks.mode) (by simp [results, Tryz.results30, go_sem, e_wz_0, e_wz_1, e_wz_2, modV]) rfl ⟨rfl, HBZ.out⟩
set_option maxRecDepth 100000 in
set_option maxHeartbeats 1000000 in
theorem kjobs_any (Y : KLay) (Ks : KSt) (G : Nat -> Prop) (m : Int) (p : Int) (w : World) (h : KAt w Y Ks G) (hk : KOk Ks m) :
  Calls Tryz.prog 25 #[.pointer (some ⟨Y.kb, 0, none⟩), .int .i64 p] w fun e w' => ∃ v, e = .returned v /\ JobRow w' w.heap.size v (if 0 <= p /\ p < Ks.seats.length then (Ks.seat p.toNat).loc.js else []) /\ Below w.heap.size w w' := by
 have HA := Lib.hid h
 have kb14 := h.cell 14 Y.sv rfl
 obtain ⟨sa, sc, hsv, hse⟩ := h.seats
 have HSE := Lib.hid hse
 obtain ⟨n, hn⟩ : ∃ n, n = Ks.seats.length := ⟨_, rfl⟩
 rw [<- hn] at hsv |-
 rw [hsv] at kb14
 have HN := Lib.hid hn
 have hn8 : n <= 1000 := by have := hk.seats8; omega
 clear h hk hse hn hsv
 obtain ⟨R, hR⟩ : ∃ R, R = if 0 <= p /\ p < (n : Int) then (Ks.seat p.toNat).loc.js else [] := ⟨_, rfl⟩
 rw [<- hR]
 have HRR := Lib.hid hR
 clear hR
 go_enter Tryz.func25, Tryz.ntmps25
 by_cases h0 : p < 0
 ·have d0 : decide (p < 0) = true := decide_eq_true h0
  have HE := Lib.hid (HRR.out.trans (if_neg (by omega)))
  clear h0
  go_wp2_with fail
  go_ret
  exact ⟨_, rfl, by rw [HE.out]; exact World.ownsRow_nil _ _ _ _, Below.refl _ _⟩
 have d0 : decide (p < 0) = false := decide_eq_false h0
 by_cases h1 : p >= (n : Int)
 ·have d1 : decide (p >= (n : Int)) = true := decide_eq_true h1
  have HE := Lib.hid (HRR.out.trans (if_neg (by omega)))
  clear h0 h1
  go_wp2_with fail
  go_ret
  exact ⟨_, rfl, by rw [HE.out]; exact World.ownsRow_nil _ _ _ _, Below.refl _ _⟩
 have d1 : decide (p >= (n : Int)) = false := decide_eq_false h1
 obtain ⟨j, rfl⟩ : ∃ j : Nat, p = j := ⟨p.toNat, by omega⟩
 have HE := Lib.hid (HRR.out.trans (by rw [if_pos ⟨by omega, by omega⟩, Int.toNat_natCast]))
 have hjn : j < n := by omega
 have hjn2 : (j : Int) < (n : Int) := by omega
 have d1' : decide ((n : Int) <= (j : Int)) = false := decide_eq_false (by omega)
 have d1'' : decide (n <= j) = false := decide_eq_false (by omega)
 have hj : j < Ks.seats.length := by rw [<- HN.out]; exact hjn
 obtain ⟨sb, hsb, y0⟩ := HSE.out j hj
 subst hsb
 have y1 := HA.out.locPtr hj
 unfold ptrV at y0
 have HJ := Lib.hid hj
 clear h0 h1 hj
 go_wp2_with fail
 refine (k_jobs Y Ks G j _ HA.out HJ.out).mono ?_
 rintro e w2 ⟨v, rfl, hr, hb⟩
 have HR := Lib.hid hr
 have HB := Lib.hid hb
 clear hr hb
 go_wp2_with fail
 go_ret
 exact ⟨_, rfl, by rw [HE.out]; exact HR.out, HB.out⟩
set_option maxRecDepth 100000 in
set_option maxHeartbeats 4000000 in
theorem kvm_any (Y : KLay) (Ks : KSt) (G : Nat -> Prop) (m : Int) (p : Int) (w : World) (h : KAt w Y Ks G) (hk : KOk Ks m) :
  Calls Tryz.prog 24 #[.pointer (some ⟨Y.kb, 0, none⟩), .int .i64 p] w fun e w' => ∃ v er, e = .returned (.tuple #[v, .int .i64 er]) /\ (0 <= p /\ p < Ks.seats.length -> v = vmV (Ks.seat p.toNat).vm /\ er = 0) /\ (¬ (0 <= p /\ p < Ks.seats.length) -> v = vmV zeroVm /\ er = 2200) /\ Below w.heap.size w w' := by
 obtain ⟨wa, ga, hw_wa, hg_ga, hb_wa, hk_ga, hs_wa⟩ := alloc_all w (.cells #[.int .i64 0, .int .i64 0, .int .i64 0, .int .i64 0, .int .i64 0, .int .i64 0, .int .i64 0, .int .i64 0, .int .i64 0, .int .i64 0, .int .i64 0, .int .i64 0, .int .i64 0, .int .i64 0, .int .i64 0, .int .i64 0, .int .i64 0, .int .i64 0] 69)
 have hA := h.below hb_wa
 have HA := Lib.hid hA
 have kb14 := hA.cell 14 Y.sv rfl
 obtain ⟨sa, sc, hsv, hse⟩ := hA.seats
 have HSE := Lib.hid hse
 obtain ⟨n, hn⟩ : ∃ n, n = Ks.seats.length := ⟨_, rfl⟩
 rw [<- hn] at hsv |-
 rw [hsv] at kb14
 have HN := Lib.hid hn
 have hn8 : n <= 1000 := by have := hk.seats8; omega
 have HKA := Lib.hid hk_ga
 have HB := Lib.hid hb_wa
 have HLT := Lib.hid (show w.heap.size <= ga by omega)
 clear h hk hA hse hn hsv hk_ga hb_wa
 go_enter Tryz.func24, Tryz.ntmps24
 go_upto_region 3 with (fail)
 rw [<- hw_wa]
 (try rw [<- hg_ga])
 clear hw_wa hg_ga hs_wa
 by_cases h0 : 0 <= p /\ p < (n : Int)
 ·obtain ⟨j, rfl⟩ : ∃ j : Nat, p = j := ⟨p.toNat, by omega⟩
  have d0 : decide ((j : Int) < 0) = false := decide_eq_false (by omega)
  have d1 : decide ((j : Int) >= (n : Int)) = false := decide_eq_false (by omega)
  have d2 : decide (n <= j) = false := decide_eq_false (by omega)
  have hjn : j < n := by omega
  have hjn2 : (j : Int) < (n : Int) := by omega
  have hj : j < Ks.seats.length := by rw [<- HN.out]; exact hjn
  obtain ⟨sb, hsb, y0⟩ := HSE.out j hj
  subst hsb
  have hs := HA.out.seat hj
  have HRG := Lib.hid (seat_range hs.1)
  have HVM := Lib.hid hs.2.2
  unfold ptrV at y0
  obtain ⟨vm, hvm⟩ : ∃ vm, vm = (Ks.seat j).vm := ⟨_, rfl⟩
  rw [<- hvm] at HRG HVM
  have HV := Lib.hid hvm
  have H0 := Lib.hid h0
  have hkz : (wa.setRow ga (vmCells vm).toArray).heap[ga]? = some (.cells (vmCells vm).toArray 69 (0, 0)) := setRow_heap _ _ _ _ _ _ HKA.out
  have hgz := setRow_grown wa ga (vmCells vm).toArray
  have HZ := Lib.hid hkz
  have HBZ := Lib.hid (bput HB.out hgz HLT.out (Nat.le_refl _))
  clear h0 hs hj hvm hkz hgz
  go_wp2_with (first | (refine wpList_load_mid rfl 69 _ rfl (Y.sb j) 3 rfl (vmCells vm) _ HRG.out Tryz.underlying69 rfl (by rw [show (vmCells vm).length = 18 by simp [vmCells, HVM.out]]; kernel_rfl) ?_) | (refine wpList_store_row rfl 69 _ _ rfl ga (vmCells vm).toArray rfl rfl _ _ HKA.out (by rw [vmSize HVM.out]; kernel_rfl) (by rw [vmSize HVM.out]; rfl) (vm_one vm) ?_) | fail)
  refine bodyPost_ret (v := .tuple #[vmV vm, .int .i64 0]) (results_vm rfl rfl HZ.out (vmSize HVM.out)) rfl ⟨_, _, rfl, fun _ => ⟨by rw [Int.toNat_natCast, <- HV.out], rfl⟩, fun q => absurd H0.out q, HBZ.out⟩
 ·have hkz : (wa.setRow ga #[.int .i64 0, .int .i64 0, .int .i64 0, .int .i64 0, .int .i64 0, .int .i64 0, .int .i64 0, .int .i64 0, .int .i64 0, .int .i64 0, .int .i64 0, .int .i64 0, .int .i64 0, .int .i64 0, .int .i64 0, .int .i64 0, .int .i64 0, .int .i64 0]).heap[ga]? = some (.cells #[.int .i64 0, .int .i64 0, .int .i64 0, .int .i64 0, .int .i64 0, .int .i64 0, .int .i64 0, .int .i64 0, .int .i64 0, .int .i64 0, .int .i64 0, .int .i64 0, .int .i64 0, .int .i64 0, .int .i64 0, .int .i64 0, .int .i64 0, .int .i64 0] 69 (0, 0)) := setRow_heap _ _ _ _ _ _ HKA.out
  have hgz := setRow_grown wa ga #[.int .i64 0, .int .i64 0, .int .i64 0, .int .i64 0, .int .i64 0, .int .i64 0, .int .i64 0, .int .i64 0, .int .i64 0, .int .i64 0, .int .i64 0, .int .i64 0, .int .i64 0, .int .i64 0, .int .i64 0, .int .i64 0, .int .i64 0, .int .i64 0]
  have HZ := Lib.hid hkz
  have HBZ := Lib.hid (bput HB.out hgz HLT.out (Nat.le_refl _))
  have H0 := Lib.hid h0
  have e0 : decide (p < 0) = true ∨ decide (p < 0) = false /\ decide (p >= (n : Int)) = true := by
   by_cases q : p < 0
   ·left; exact decide_eq_true q
   ·right; exact ⟨decide_eq_false q, decide_eq_true (by omega)⟩
  clear h0 hkz hgz
  rcases e0 with e0 | ⟨e0, e1⟩
  ·go_wp2_with (first | (refine wpList_store_row rfl 69 _ _ rfl ga #[.int .i64 0, .int .i64 0, .int .i64 0, .int .i64 0, .int .i64 0, .int .i64 0, .int .i64 0, .int .i64 0, .int .i64 0, .int .i64 0, .int .i64 0, .int .i64 0, .int .i64 0, .int .i64 0, .int .i64 0, .int .i64 0, .int .i64 0, .int .i64 0] rfl rfl _ _ HKA.out (by kernel_rfl) rfl (by simp [Value.oneCell']) ?_) | fail)
   refine bodyPost_ret (v := .tuple #[.agg #[.int .i64 0, .int .i64 0, .int .i64 0, .int .i64 0, .int .i64 0, .int .i64 0, .int .i64 0, .int .i64 0, .int .i64 0, .int .i64 0, .int .i64 0, .int .i64 0, .int .i64 0, .int .i64 0, .int .i64 0, .int .i64 0, .int .i64 0, .int .i64 0], .int .i64 2200]) (results_vm rfl rfl HZ.out rfl) rfl ⟨_, _, rfl, fun q => absurd q H0.out, fun _ => ⟨rfl, rfl⟩, HBZ.out⟩
  ·go_wp2_with (first | (refine wpList_store_row rfl 69 _ _ rfl ga #[.int .i64 0, .int .i64 0, .int .i64 0, .int .i64 0, .int .i64 0, .int .i64 0, .int .i64 0, .int .i64 0, .int .i64 0, .int .i64 0, .int .i64 0, .int .i64 0, .int .i64 0, .int .i64 0, .int .i64 0, .int .i64 0, .int .i64 0, .int .i64 0] rfl rfl _ _ HKA.out (by kernel_rfl) rfl (by simp [Value.oneCell']) ?_) | fail)
   refine bodyPost_ret (v := .tuple #[.agg #[.int .i64 0, .int .i64 0, .int .i64 0, .int .i64 0, .int .i64 0, .int .i64 0, .int .i64 0, .int .i64 0, .int .i64 0, .int .i64 0, .int .i64 0, .int .i64 0, .int .i64 0, .int .i64 0, .int .i64 0, .int .i64 0, .int .i64 0, .int .i64 0], .int .i64 2200]) (results_vm rfl rfl HZ.out rfl) rfl ⟨_, _, rfl, fun q => absurd q H0.out, fun _ => ⟨rfl, rfl⟩, HBZ.out⟩
end Go.Proofs.YtooeeiiiflfckaaGreat
