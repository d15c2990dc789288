/- Chapter 17's law PortRows (printed by gen17h.py). -/
import Derived.Test.YtkjjfidbmkpljaaLaw17c
set_option linter.unusedVariables false
set_option linter.unusedSimpArgs false
namespace Go.Proofs.Ytkjjfidbmkpljaa
open Go.RowKit

theorem PlainB.any6 {W W' : World} {b : Nat} {t1 : Task} {i1 i2 : Instr} {t3 : Task} {c4 : Array Value} {x1 x2 : Window} {o o' : Port} (h : PlainB W b t1 i1 i2 t3 c4 x1 x2 o) (hg : W.grownBy W' (some (b + 6))) (h6 : W'.heap[b + 6]? = some (.cells #[.int .i64 o'.kind, .int .i64 o'.from_, .int .i64 o'.to_, .int .i64 o'.size] 56 (0, 0))) : PlainB W' b t1 i1 i2 t3 c4 x1 x2 o' := by
  have k : ∀ {g : Nat} {ob : Obj}, W.heap[g]? = some ob → g ≠ b + 6 → W'.heap[g]? = some ob := fun ho hne => (hg.block _ (lt_of_block ho) (fun e => by injection e with e; exact hne e)).trans ho
  exact ⟨k h.h1 (by omega), k h.h2 (by omega), k h.h3 (by omega), k h.h4 (by omega), k h.h5 (by omega), h6⟩
theorem PortsIs.over {W W' : World} {pb lo hi : Nat} {S : PSt} (h : PortsIs W pb lo hi S) (hb : Below hi W W') : PortsIs W' pb lo hi S := by
  obtain ⟨Ls, h1, h2⟩ := h
  refine ⟨Ls, h1.far (F := fun k => hi ≤ k) ⟨hb.os, hb.tape, hb.output, hb.size, fun k _ hf => hb.block k (by omega)⟩ (fun k _ hk hf => by omega), h2⟩
theorem flatInt_one (xs : List Int) : ∀ u ∈ xs.flatMap intCell, u.oneCell' = true := fun u hu => flat_one flatInt xs u hu
def rowCfg (p : Port) : Config := ⟨10, 2, [⟨1, [plT1], [plI1, plI2]⟩, ⟨0, [plT3], []⟩], [plW1, plW2], [p]⟩
theorem row_check : ∀ k, k < 9 → 1 ≤ k → checkCfg (rowCfg ⟨1, 0, 1, (k : Nat)⟩) = 0 := by decide
/-- The law's own row behind a word. -/
def rowNext (K : Nat) (R : List Int) (x : Int) : List Int := if K < (R ++ [x]).length then (R ++ [x]).drop 1 else R ++ [x]
theorem row_queue {K : Nat} (hK : 1 ≤ K) (R : List Int) (hR : R.length ≤ K) (x : Int) : putP (⟨1, 0, 1, (K : Nat)⟩, R) x = rowNext K R x := by
  unfold putP rowNext
  rw [if_neg (by simp), show (Port.mk 1 0 1 (K : Nat)).size.toNat = K by simp]
  unfold pushQ
  simp only [List.length_append, List.length_cons, List.length_nil]
  by_cases h : R.length = K
  · rw [if_pos h, if_pos (by omega)]
    cases R with
    | nil => simp at h; omega
    | cons y r => rfl
  · rw [if_neg h, if_neg (by omega)]
theorem row_sample (R : List Int) (hR : R.length ≤ 1) (x : Int) : putP (⟨0, 0, 1, 1⟩, R) x = rowNext 1 R x := by
  unfold putP rowNext
  rw [if_pos rfl]
  match R, hR with
  | [], _ => rfl
  | [y], _ => rfl
theorem rowNext_len {K : Nat} (hK : 1 ≤ K) (R : List Int) (hR : R.length ≤ K) (x : Int) : (rowNext K R x).length ≤ K ∧ 0 < (rowNext K R x).length := by
  unfold rowNext
  split
  · rename_i h
    simp only [List.length_append, List.length_cons, List.length_nil, List.length_drop] at h ⊢
    omega
  · rename_i h
    simp only [List.length_append, List.length_cons, List.length_nil] at h ⊢
    omega
theorem one_st (p : Port) (q : List Int) (x : Int) (hf : p.from_ = 0) (h0 : 0 ≤ x) (h1 : x < 65536) : wErr [(p, q)] 0 0 x = 0 ∧ wSt [(p, q)] 0 0 x = [(p, putP (p, q) x)] := by
  have e : wErr [(p, q)] 0 0 x = 0 := by
    unfold wErr
    rw [if_neg (by simp; omega)]
    simp [hf]
  exact ⟨e, by unfold wSt; rw [if_pos e]; rfl⟩
theorem one_drop (p : Port) (q : List Int) (x : Int) (hf : p.from_ = 0) (h0 : 0 ≤ x) (h1 : x < 65536) : wDrop [(p, q)] 0 0 x = dropP (p, q) := by
  unfold wDrop
  rw [(one_st p q x hf h0 h1).1]
  rfl
theorem one_take (p : Port) (q : List Int) (ht : p.to_ = 1) : tErr [(p, q)] 1 0 = 0 ∧ tVal [(p, q)] 1 0 = q.headD 0 ∧ tIs [(p, q)] 1 0 = !q.isEmpty ∧ tSt [(p, q)] 1 0 = [(p, takeP (p, q))] := by
  have e : tErr [(p, q)] 1 0 = 0 := by
    unfold tErr
    rw [if_neg (by simp)]
    simp [ht]
  exact ⟨e, by unfold tVal; rw [if_pos e]; rfl, by unfold tIs; rw [e]; rfl, by unfold tSt; rw [if_pos e]; rfl⟩
theorem one_gets (p : Port) (q : List Int) (ht : p.to_ = 1) : getsS [(p, q)] 1 = [q.headD 0] := by
  unfold getsS getP
  simp [ht]
theorem src_drop1 {w : World} {g o n cap : Nat} {es : List Int} (h : IntsV w (.slice (some ⟨g, o, none⟩) n cap) es) (hn : 1 ≤ es.length) : Src w (.slice (some ⟨g, o + 1, none⟩) (n - 1) (cap - 1)) (n - 1) ((es.drop 1).flatMap intCell) := by
  refine .inr ⟨_, _, rfl, fun j u hu => ?_⟩
  have hj : j < (es.drop 1).length := by
    have := (List.getElem?_eq_some_iff.1 hu).1
    rw [flat_len intCell 1 (fun _ => rfl)] at this
    omega
  have hg := flat_get intCell 1 (fun _ => rfl) (es.drop 1) j hj 0 (by decide)
  rw [Nat.mul_one, Nat.add_zero, hu] at hg
  rw [List.length_drop] at hj
  obtain ⟨b, off, c, e, hy⟩ := h.get (k := j + 1) (by omega)
  injection e with e _ _
  injection e with e
  injection e with e1 e2
  subst e1; subst e2
  unfold IntAt at hy
  rw [addr_add]
  simp only [List.getElem_drop, intCell, List.getElem?_cons_zero] at hg
  injection hg with hg
  rw [hg]
  have e1 : 1 + j = j + 1 := by omega
  have e2 : o + (j + 1) = o + 1 + j := by omega
  rw [e2] at hy
  simpa [e1] using hy
set_option maxRecDepth 100000 in
set_option maxHeartbeats 16000000 in
theorem portRows_q (xs : List Int) (v : Value) (sz : Int) (w : World) (hv : IntsV w v xs) :
    Calls Try.prog 5 #[v, .int .i64 sz, .bool false] w fun e w' => e = .returned (.bool true) ∧ Below w.heap.size w w' := by
  obtain ⟨a, cap, rfl, hsm, -, -, -⟩ := id hv
  have HV := Lib.hid hv
  obtain ⟨k0, hk0, hk8⟩ := mod_u64x sz 8 (by decide)
  rw [show ((8 : Nat) : Int) = 8 from rfl] at hk0
  obtain ⟨k, hkk⟩ : ∃ k, k = k0 + 1 := ⟨_, rfl⟩
  have HKI0 := Lib.hid (show (k0 : Int) + 1 = (k : Int) by omega)
  have hk18 : 1 ≤ k ∧ k ≤ 8 := by omega
  have hw1 : IntKind.i64.wrap (k0 : Int) = (k0 : Int) := by rw [IntKind.wrap_i64]; omega
  have hw2 : IntKind.u64.wrap (k0 : Int) = (k0 : Int) := by rw [IntKind.wrap_u64]; omega
  have hw3 : IntKind.i64.wrap (1 + (k0 : Int)) = (k0 : Int) + 1 := by rw [IntKind.wrap_i64]; omega
  clear hv hkk hk8
  go_enter Try.func5, Try.ntmps5
  go_wp2_with fail
  refine (awake17 _).mono ?_
  rintro e w0 ⟨rfl, hb⟩
  have HB0 := Lib.hid hb
  clear hb
  go_wp2_with fail
  refine (plainAt17_any _).mono ?_
  rintro e w1 ⟨b, rfl, hbw, hpl, hb⟩
  have hpb := PlainB.of hpl
  have hlt6 := hpb.lt
  have o0 := BlockIs.of hpb.h6 0 _ rfl
  have o1 := BlockIs.of hpb.h6 1 _ rfl
  have o2 := BlockIs.of hpb.h6 2 _ rfl
  have o3 := BlockIs.of hpb.h6 3 _ rfl
  have f0 := thaw hpb.h6 0
  have f1 := thaw hpb.h6 1
  have f2 := thaw hpb.h6 2
  have f3 := thaw hpb.h6 3
  have hBB : w.heap.size ≤ b + 6 := by have := HB0.out.size; omega
  have hgs : w1.grownBy (w1.setCell ⟨b + 6, 3, none⟩ (.int .i64 (k : Int))) (some (b + 6)) := set_grown _ _ _ _
  have hps : PlainB (w1.setCell ⟨b + 6, 3, none⟩ (.int .i64 (k : Int))) b plT1 plI1 plI2 plT3 (plC4 b) plW1 plW2 ⟨1, 0, 1, (k : Nat)⟩ := hpb.any6 hgs (by have h := blk_set hpb.h6 3 (.int .i64 (k : Int)); simpa using h)
  have hbs := bput (bthen HB0.out hb) hgs hBB (Nat.le_refl _)
  have hss : (w1.setCell ⟨b + 6, 3, none⟩ (.int .i64 (k : Int))).heap.size = w1.heap.size := by simp
  obtain ⟨ws, hws⟩ : ∃ ws, ws = w1.setCell ⟨b + 6, 3, none⟩ (.int .i64 (k : Int)) := ⟨_, rfl⟩
  rw [← hws] at hps hbs hss
  obtain ⟨w6, hw_w6⟩ : ∃ w6, w6 = ws.alloc (.cells #[.int .i64 10, .int .i64 2, plainPs b, plainWs b, plainOs b] 26) := ⟨_, rfl⟩
  obtain ⟨ga, hg_ga⟩ : ∃ ga, ga = ws.heap.size := ⟨_, rfl⟩
  have hb_w6 : Below ws.heap.size ws w6 := by rw [hw_w6]; exact balloc _ _
  have hk_ga : w6.heap[ga]? = some (.cells #[.int .i64 10, .int .i64 2, plainPs b, plainWs b, plainOs b] 26 (0, 0)) := by rw [hw_w6, hg_ga]; exact blk_new _ _
  have hs_w6 : w6.heap.size = ws.heap.size + 1 := by rw [hw_w6]; simp
  have HPS := Lib.hid (hps.keep hb_w6)
  have HB6 := Lib.hid (bthen hbs hb_w6)
  have HWS := Lib.hid hss
  clear hb hpl hpb hps hbs hb_w6 hs_w6 hk_ga hbw hBB hgs hss
  go_wp2_with fail
  simp only [HKI0.out]
  rw [← hws]
  (try rw [← HWS.out])
  rw [← hw_w6]
  clear hws hw_w6 hg_ga hlt6 o0 o1 o2 o3 f0 f1 f2 f3
  refine (ports_make (rowCfg ⟨1, 0, 1, (k : Nat)⟩) _ _ ⟨_, _, _, rfl, HPS.out.is 10 2⟩ (row_check k (by omega) (by omega))).mono ?_
  rintro e w7 ⟨pb, rfl, hp, hb⟩
  have HP7 := Lib.hid (show PortsIs w7 pb w6.heap.size w7.heap.size [(⟨1, 0, 1, (k : Nat)⟩, [])] from hp)
  have HB7 := Lib.hid (bthen HB6.out hb)
  have HLO := Lib.hid HB6.out.size
  obtain ⟨lo, hlo⟩ : ∃ lo, lo = w6.heap.size := ⟨_, rfl⟩
  obtain ⟨hi, hhi⟩ : ∃ hi, hi = w7.heap.size := ⟨_, rfl⟩
  rw [← hlo] at HP7 HLO
  rw [← hhi] at HP7
  have hhi7 : hi ≤ w7.heap.size := by omega
  clear hp hb hlo hhi HPS HWS
  go_upto_block 0 with (first | (go_at_call 11; refine (num_any _ _).mono ?_; rintro e w' ⟨rfl, hw⟩; subst w') | fail)
  have HLH := Lib.hid (show w.heap.size ≤ hi by have := HLO.out; have h := HP7.out; obtain ⟨Ls, h1, h2⟩ := h; have := h1.pb1; have := h1.pb2; omega)
  go_cut [11] (fun r wx => ∃ R : List Int, R.length ≤ k ∧ Hid (IntRow wx hi r R) ∧ Hid (PortsIs wx pb lo hi [(⟨1, 0, 1, (k : Nat)⟩, R)]) ∧ Hid (Below w.heap.size w wx) ∧ Hid (hi ≤ wx.heap.size))
  case first =>
    go_wp2_with fail
    go_loopw [11, 12] (fun r a wr => ∃ (i : Nat) (R : List Int), i ≤ xs.length ∧ i ≤ 30 ∧ a = .int .i64 i ∧ R.length ≤ k ∧ Hid (IntRow wr hi r R) ∧ Hid (PortsIs wr pb lo hi [(⟨1, 0, 1, (k : Nat)⟩, R)]) ∧ Hid (Below w.heap.size w wr) ∧ Hid (hi ≤ wr.heap.size)) (fun _ a _ => 30 - (intOf a).toNat)
    case atStart => exact ⟨0, [], by omega, by omega, rfl, by simp, Lib.hid (World.ownsRow_nil _ _ _ _), HP7, HB7, Lib.hid hhi7⟩
    case round =>
      obtain ⟨i, R, hi', hi30, rfl, hR, HR, HP, HBW, HSZ⟩ := hrel
      by_cases hlt : i < xs.length
      · by_cases h30 : i < 30
        · have c1 : (i : Int) < 30 := by omega
          obtain ⟨x, hx⟩ : ∃ x, x = bits BinOp.and IntKind.i64 xs[i] 65535 := ⟨_, rfl⟩
          have hx0 : 0 ≤ x ∧ x < 65536 := by rw [hx, i64_and65535]; omega
          obtain ⟨bw, off, cp, e, hy⟩ := HV.out.get hlt
          injection e with e _ e3
          subst e
          subst e3
          have hy := IntAt.ext (Ext.below HBW.out) hy
          unfold IntAt at hy
          by_cases hfull : R.length = k
          · have hd : wDrop [(⟨1, 0, 1, (k : Nat)⟩, R)] 0 0 x = true := by rw [one_drop _ R x rfl hx0.1 hx0.2]; unfold dropP; rw [if_neg (by simp)]; simp; omega
            have HX := Lib.hid hx
            go_wp2_with fail
            rw [← hx]
            refine (ports_write pb lo hi _ 0 0 x _ HP.out).mono ?_
            rw [(one_st ⟨1, 0, 1, (k : Nat)⟩ R x rfl hx0.1 hx0.2).1, (one_st ⟨1, 0, 1, (k : Nat)⟩ R x rfl hx0.1 hx0.2).2, row_queue (by omega) R hR x, hd]
            rintro e w3 ⟨rfl, hp, hkk⟩
            have HP3 := Lib.hid hp
            have HB3 := Lib.hid (HBW.out.trans (between_below hkk HBW.out.size HLO.out))
            have HR3 := Lib.hid (show IntRow w3 hi u11 R from Keeps.own HR.out hkk (fun g hg hf => by have := (HR.out.lt g hg).1; have := hf.2; omega))
            have HSZ3 := Lib.hid (Nat.le_trans HSZ.out hkk.size)
            obtain ⟨ra, rc, hrr⟩ := own_shape HR3.out
            subst hrr
            clear hp hkk hd hx
            have lf : ((R.length : Int) == (k : Int)) = true := by rw [beq_iff_eq]; omega
            have HF := Lib.hid hfull
            clear hfull
            go_wp2_with (first | (go_at_call 11; refine (num_any _ _).mono ?_; rintro e w' ⟨rfl, hw⟩; subst w') | (at_builtin; refine append_elem rfl (.tmp 87) (.tmp 89) 49 rfl hi 3 _ 1 8 Try.underlying49 infoInt rfl (by decide) (.slice ra R.length rc) R.length _ rfl HR3.out (intCell x) w3.heap.size rfl rfl rfl rfl (by omega) (by omega) HSZ3.out ?_))

            intro v2 w4 hown hbel hg
            have hff := HF.out
            have hro := IntRow.snoc rfl hown
            have HP4 := Lib.hid (HP3.out.over hbel)
            have HB4 := Lib.hid (HB3.out.trans (hbel.mono HLH.out))
            have HSZ4 := Lib.hid (Nat.le_trans HSZ3.out hbel.size)
            have hl4 : (R ++ [x]).length = R.length + 1 := by simp

            rcases hro.2 with ⟨_, h0⟩ | ⟨g4, c4, cur4, e4, hB4, hh4, hnc, hcm, hlen4, htake⟩
            · rw [hl4] at h0; omega
            have hro' := hro
            rw [e4, hl4] at hro'
            have HI4 := Lib.hid (IntRow.ints hro' (by rw [hl4]; omega))
            obtain rfl : v2 = .slice (some ⟨g4, 0, none⟩) (R.length + 1) c4 := by rw [e4, hl4]
            have HSRC := Lib.hid (src_drop1 (w := w4.alloc (.cells #[] 3)) (IntsV.ext (Ext.alloc w4 _) HI4.out) (by rw [hl4]; omega))
            have hc4 : R.length + 1 ≤ c4 := by rw [hl4] at hnc; exact hnc
            have d1 : ¬ c4 = 1 := by omega
            have d2 : (1 : Int) ≤ ((R.length + 1 : Nat) : Int) := by omega
            have d3 : R.length + 1 - 1 = R.length := by omega
            rw [d3] at HSRC
            have d4 : decide ((k : Int) < (R.length : Int) + 1) = true := decide_eq_true (by omega)
            have d5 : (k : Int) ≤ (R.length : Int) := by omega
            have d6 : decide ((k : Int) ≤ (R.length : Int)) = true := decide_eq_true (by omega)
            have hdl : ((R ++ [x]).drop 1).length = R.length := by rw [List.length_drop, hl4]; omega
            clear hff hown hbel hg hro hro' e4 hB4 hh4 hnc hcm hlen4 htake
            go_wp2_with (at_builtin; refine wpList_onto _ rfl (.tmp 95) (.tmp 97) 49 rfl w4.heap.size 3 _ 1 8 Try.underlying49 infoInt rfl (by decide) (.slice (some ⟨w4.heap.size, 0, none⟩) 0 0) 0 [] rfl (own_lit w4 _ _) R.length _ HSRC.out (by rw [flat_len intCell 1 (fun _ => rfl), hdl]) (fun u hu => flatInt_one _ u hu) (by simp only [maxLen]; omega) (by omega) (by simp) ?_)
            intro v5 w5 hown hg
            have hb5 : Below w4.heap.size w4 w5 := (balloc w4 (.cells #[] 3)).grown hg (by simp) (fun k hk => by simp [Value.ownBlock] at hk; omega)
            have HRN := Lib.hid (show IntRow w5 hi v5 (rowNext k R x) by
              unfold rowNext
              have := HF.out
              rw [if_pos (by rw [hl4]; omega)]
              unfold IntRow
              rw [hdl]
              exact own_lower (by simpa using hown) HSZ4.out)
            have HP5 := Lib.hid (HP4.out.keep hb5)
            have HB5 := Lib.hid (bthen HB4.out hb5)
            have HSZ5 := Lib.hid (Nat.le_trans HSZ4.out hb5.size)
            obtain ⟨va, vc, rfl⟩ := own_shape hown
            clear hown hg hb5

            obtain ⟨Rn, hRn⟩ : ∃ Rn, Rn = rowNext k R x := ⟨_, rfl⟩
            have hnl : Rn.length ≤ k ∧ 0 < Rn.length := by rw [hRn]; exact rowNext_len (by omega) R hR x
            rw [← hRn] at HRN HP5
            clear hRn hy
            go_wp2_with fail
            refine (ports_gets pb lo hi _ 1 _ HP5.out (by simp)).mono ?_
            rw [one_gets _ _ rfl]
            rintro e w6 ⟨gv, rfl, hg, hb⟩
            have HR6 := Lib.hid (show IntRow w6 hi _ Rn from Below.kept HRN.out hb)
            have HRI := Lib.hid (HR6.out.ints (by omega))
            have HG6 := Lib.hid (IntRow.ints hg (by simp))
            have HP6 := Lib.hid (HP5.out.keep hb)
            have HB6 := Lib.hid (bthen HB5.out hb)
            have HSZ6 := Lib.hid (Nat.le_trans HSZ5.out hb.size)
            obtain ⟨ga, gc, rfl, -, -, -, -⟩ := id HG6.out
            rw [show ([Rn.headD 0]).length = 1 from rfl]
            obtain ⟨b1, o1, c1', e, y1⟩ := HG6.out.get (k := 0) (by simp)
            injection e with e _ e3
            subst e
            subst e3
            obtain ⟨b2, o2, c2', e, y2⟩ := HRI.out.get (k := 0) hnl.2
            injection e with e en e3
            subst e
            subst e3
            have hh : [Rn.headD 0][0]'(by simp) = Rn[0]'hnl.2 := by cases Rn with | nil => exact absurd hnl.2 (by simp) | cons y r => rfl
            rw [hh] at y1
            unfold IntAt at y1 y2
            simp only [Nat.add_zero] at y1 y2
            have HNL := Lib.hid hnl
            have HEN := Lib.hid en
            clear hg hb hh en
            go_wp2_with fail
            go_quiet (fail)
            go_wp2_with fail
            go_roundw
            case rel => exact ⟨i + 1, Rn, by omega, by omega, by go_num, HNL.out.1, Lib.hid (Below.kept HR6.out (below_drewN (Below.refl _ _) _)), Lib.hid (HP6.out.keep (below_drewN (Below.refl _ _) _)), Lib.hid (below_drewN HB6.out _), Lib.hid HSZ6.out⟩
            case measure => simp [intOf]; omega
          · have hd : wDrop [(⟨1, 0, 1, (k : Nat)⟩, R)] 0 0 x = false := by rw [one_drop _ R x rfl hx0.1 hx0.2]; unfold dropP; rw [if_neg (by simp)]; simp; omega
            have HX := Lib.hid hx
            go_wp2_with fail
            rw [← hx]
            refine (ports_write pb lo hi _ 0 0 x _ HP.out).mono ?_
            rw [(one_st ⟨1, 0, 1, (k : Nat)⟩ R x rfl hx0.1 hx0.2).1, (one_st ⟨1, 0, 1, (k : Nat)⟩ R x rfl hx0.1 hx0.2).2, row_queue (by omega) R hR x, hd]
            rintro e w3 ⟨rfl, hp, hkk⟩
            have HP3 := Lib.hid hp
            have HB3 := Lib.hid (HBW.out.trans (between_below hkk HBW.out.size HLO.out))
            have HR3 := Lib.hid (show IntRow w3 hi u11 R from Keeps.own HR.out hkk (fun g hg hf => by have := (HR.out.lt g hg).1; have := hf.2; omega))
            have HSZ3 := Lib.hid (Nat.le_trans HSZ.out hkk.size)
            obtain ⟨ra, rc, hrr⟩ := own_shape HR3.out
            subst hrr
            clear hp hkk hd hx
            have lf : ((R.length : Int) == (k : Int)) = false := by rw [beq_eq_false_iff_ne]; omega
            have HF := Lib.hid hfull
            clear hfull
            go_wp2_with (first | (go_at_call 11; refine (num_any _ _).mono ?_; rintro e w' ⟨rfl, hw⟩; subst w') | (at_builtin; refine append_elem rfl (.tmp 87) (.tmp 89) 49 rfl hi 3 _ 1 8 Try.underlying49 infoInt rfl (by decide) (.slice ra R.length rc) R.length _ rfl HR3.out (intCell x) w3.heap.size rfl rfl rfl rfl (by omega) (by omega) HSZ3.out ?_))

            intro v2 w4 hown hbel hg
            have hff := HF.out
            have hro := IntRow.snoc rfl hown
            have HP4 := Lib.hid (HP3.out.over hbel)
            have HB4 := Lib.hid (HB3.out.trans (hbel.mono HLH.out))
            have HSZ4 := Lib.hid (Nat.le_trans HSZ3.out hbel.size)
            have hl4 : (R ++ [x]).length = R.length + 1 := by simp

            have HRN' := Lib.hid (show IntRow w4 hi v2 (rowNext k R x) by unfold rowNext; rw [if_neg (by rw [hl4]; omega)]; exact hro)
            obtain ⟨va, vc, e2⟩ := own_shape hown
            subst e2
            have d4 : decide ((k : Int) < (R.length : Int) + 1) = false := decide_eq_false (by omega)
            have d5 : ¬ (k : Int) ≤ (R.length : Int) := by omega
            have d6 : decide ((k : Int) ≤ (R.length : Int)) = false := decide_eq_false (by omega)
            have HRN := HRN'
            obtain ⟨w5, hw5⟩ : ∃ w5, w5 = w4 := ⟨_, rfl⟩
            have HP5 := Lib.hid (show PortsIs w5 pb lo hi _ by rw [hw5]; exact HP4.out)
            have HB5 := Lib.hid (show Below w.heap.size w w5 by rw [hw5]; exact HB4.out)
            have HSZ5 := Lib.hid (show hi ≤ w5.heap.size by rw [hw5]; exact HSZ4.out)
            rw [← hw5] at HRN ⊢
            clear hff hown hbel hg hro hw5 HRN'

            obtain ⟨Rn, hRn⟩ : ∃ Rn, Rn = rowNext k R x := ⟨_, rfl⟩
            have hnl : Rn.length ≤ k ∧ 0 < Rn.length := by rw [hRn]; exact rowNext_len (by omega) R hR x
            rw [← hRn] at HRN HP5
            clear hRn hy
            go_wp2_with fail
            refine (ports_gets pb lo hi _ 1 _ HP5.out (by simp)).mono ?_
            rw [one_gets _ _ rfl]
            rintro e w6 ⟨gv, rfl, hg, hb⟩
            have HR6 := Lib.hid (show IntRow w6 hi _ Rn from Below.kept HRN.out hb)
            have HRI := Lib.hid (HR6.out.ints (by omega))
            have HG6 := Lib.hid (IntRow.ints hg (by simp))
            have HP6 := Lib.hid (HP5.out.keep hb)
            have HB6 := Lib.hid (bthen HB5.out hb)
            have HSZ6 := Lib.hid (Nat.le_trans HSZ5.out hb.size)
            obtain ⟨ga, gc, rfl, -, -, -, -⟩ := id HG6.out
            rw [show ([Rn.headD 0]).length = 1 from rfl]
            obtain ⟨b1, o1, c1', e, y1⟩ := HG6.out.get (k := 0) (by simp)
            injection e with e _ e3
            subst e
            subst e3
            obtain ⟨b2, o2, c2', e, y2⟩ := HRI.out.get (k := 0) hnl.2
            injection e with e en e3
            subst e
            subst e3
            have hh : [Rn.headD 0][0]'(by simp) = Rn[0]'hnl.2 := by cases Rn with | nil => exact absurd hnl.2 (by simp) | cons y r => rfl
            rw [hh] at y1
            unfold IntAt at y1 y2
            simp only [Nat.add_zero] at y1 y2
            have HNL := Lib.hid hnl
            have HEN := Lib.hid en
            clear hg hb hh en
            go_wp2_with fail
            go_quiet (fail)
            go_wp2_with fail
            go_roundw
            case rel => exact ⟨i + 1, Rn, by omega, by omega, by go_num, HNL.out.1, Lib.hid (Below.kept HR6.out (below_drewN (Below.refl _ _) _)), Lib.hid (HP6.out.keep (below_drewN (Below.refl _ _) _)), Lib.hid (below_drewN HB6.out _), Lib.hid HSZ6.out⟩
            case measure => simp [intOf]; omega
        · obtain rfl : i = 30 := by omega
          have c1 : (30 : Int) < (xs.length : Int) := by omega
          go_wp2_with fail
          go_meet
          exact ⟨R, hR, HR, HP, HBW, HSZ⟩
      · obtain rfl : i = xs.length := by omega
        go_wp2_with fail
        go_meet
        exact ⟨R, hR, HR, HP, HBW, HSZ⟩
  case rest =>
    obtain ⟨R, hR, HR, HP, HBW, HSZ⟩ := hcut
    have q1 : IntKind.i64.wrap ((k : Int) + 1) = (k : Int) + 1 := by rw [IntKind.wrap_i64]; omega
    go_wp2_with fail
    go_loopw [11, 17] (fun r a wr => ∃ (j : Nat) (R : List Int), j ≤ k + 1 ∧ a = .int .i64 j ∧ R.length ≤ k ∧ Hid (IntRow wr hi r R) ∧ Hid (PortsIs wr pb lo hi [(⟨1, 0, 1, (k : Nat)⟩, R)]) ∧ Hid (Below w.heap.size w wr) ∧ Hid (hi ≤ wr.heap.size)) (fun _ a _ => k + 1 - (intOf a).toNat)
    case atStart => exact ⟨0, R, by omega, rfl, hR, HR, HP, HBW, HSZ⟩
    case round =>
      clear hR HR HP HBW HSZ
      obtain ⟨j, R, hj, rfl, hR, HR, HP, HBW, HSZ⟩ := hrel
      by_cases hlt : j < k + 1
      · have e1 : decide ((j : Int) < (k : Int) + 1) = true := decide_eq_true (by omega)
        have e2 : decide ((j : Int) ≤ (k : Int)) = true := decide_eq_true (by omega)
        have e3 : (j : Int) < (k : Int) + 1 := by omega
        have e4 : (j : Int) ≤ (k : Int) := by omega
        have e5 : True := trivial
        go_wp2_with fail
        refine (ports_take pb lo hi _ 1 0 _ HP.out).mono ?_
        rw [(one_take ⟨1, 0, 1, (k : Nat)⟩ R rfl).1, (one_take ⟨1, 0, 1, (k : Nat)⟩ R rfl).2.1, (one_take ⟨1, 0, 1, (k : Nat)⟩ R rfl).2.2.1, (one_take ⟨1, 0, 1, (k : Nat)⟩ R rfl).2.2.2]
        rintro e w3 ⟨rfl, hp, hkk⟩
        have HB3 := Lib.hid (HBW.out.trans (between_below hkk HBW.out.size HLO.out))
        have HR3 := Lib.hid (show IntRow w3 hi u11 R from Keeps.own HR.out hkk (fun g hg hf => by have := (HR.out.lt g hg).1; have := hf.2; omega))
        have HSZ3 := Lib.hid (Nat.le_trans HSZ.out hkk.size)
        have HP3 := Lib.hid hp
        obtain ⟨ra, rc, hrr⟩ := own_shape HR3.out
        subst hrr
        clear hp hkk e1 e2 e3 e4
        rcases R with _ | ⟨y, r⟩
        · have HP3' := Lib.hid (show PortsIs w3 pb lo hi [(⟨1, 0, 1, (k : Nat)⟩, [])] from HP3.out)
          go_wp2_with (first | (go_at_call 11; refine (num_any _ _).mono ?_; rintro e w' ⟨rfl, hw⟩; subst w') | fail)
          go_roundw
          case rel => exact ⟨j + 1, [], by omega, by go_num, by simp, HR3, HP3', HB3, HSZ3⟩
          case measure => simp [intOf]; omega
        · have HRI := Lib.hid (HR3.out.ints (by omega))
          obtain ⟨b1, o1, c1', e, y1⟩ := HRI.out.get (k := 0) (by simp)
          rw [List.length_cons] at e
          injection e with e _ e3
          subst e
          subst e3
          unfold IntAt at y1
          simp only [Nat.add_zero, List.getElem_cons_zero] at y1
          have d1 : decide ((0 : Int) < (r.length : Int) + 1) = true := decide_eq_true (by omega)
          have d2 : (0 : Int) < (r.length : Int) + 1 := by omega
          have d3 : (0 : Int) ≤ (r.length : Int) := by omega
          have hrl : r.length + 1 ≤ k := by simpa using hR
          rw [show ((y :: r : List Int).headD 0) = y from rfl, show (!(y :: r : List Int).isEmpty) = true from rfl]
          have HP4 := Lib.hid (show PortsIs w3 pb lo hi [(⟨1, 0, 1, (k : Nat)⟩, r)] from HP3.out)
          have hl1 : (y :: r : List Int).length = r.length + 1 := rfl
          rcases r with _ | ⟨z, r'⟩
          · have q2 : (1 : Int) ≤ (([] : List Int).length : Int) + 1 := by simp
            by_cases hcap : rc = 1
            all_goals
              go_wp2_with (first | (go_at_call 11; refine (num_any _ _).mono ?_; rintro e w' ⟨rfl, hw⟩; subst w') | fail)
              go_roundw
              case rel => exact ⟨j + 1, [], by omega, by go_num, by simp, Lib.hid (own_lower (own_lit w3 _ _) HSZ3.out), Lib.hid (HP4.out.keep (balloc _ _)), Lib.hid (bthen HB3.out (balloc _ _)), Lib.hid (Nat.le_trans HSZ3.out (balloc _ _).size)⟩
              case measure => simp [intOf]; omega
          · have HSRC := Lib.hid (src_drop1 (w := w3.alloc (.cells #[] 3)) (IntsV.ext (Ext.alloc w3 _) HRI.out) (by simp))
            have q2 : (1 : Int) ≤ ((z :: r' : List Int).length : Int) + 1 := by omega
            obtain ⟨m, hm⟩ : ∃ m, m = (z :: r' : List Int).length := ⟨_, rfl⟩
            have hcc : ¬ rc = 1 := by
              rcases HR3.out.2 with ⟨h, _⟩ | ⟨g4, c4, cur4, e4, hB4, hh4, hnc, hcm, hlen4, htake⟩
              · cases h
              · injection e4 with _ _ e4
                subst e4
                have : (y :: z :: r' : List Int).length = r'.length + 2 := rfl
                omega
            rw [show ((y :: z :: r' : List Int)).length - 1 = (z :: r' : List Int).length from rfl, show ((y :: z :: r' : List Int).drop 1) = z :: r' from rfl] at HSRC
            go_wp2_with (first | (go_at_call 11; refine (num_any _ _).mono ?_; rintro e w' ⟨rfl, hw⟩; subst w') | (at_builtin; refine wpList_onto _ rfl (.tmp 150) (.tmp 152) 49 rfl w3.heap.size 3 _ 1 8 Try.underlying49 infoInt rfl (by decide) (.slice (some ⟨w3.heap.size, 0, none⟩) 0 0) 0 [] rfl (own_lit w3 _ _) (z :: r' : List Int).length _ HSRC.out (by rw [flat_len intCell 1 (fun _ => rfl)]) (fun u hu => flatInt_one _ u hu) (by simp only [maxLen]; omega) (by omega) (by simp) ?_))
            intro v5 w5 hown hg
            have hb5 : Below w3.heap.size w3 w5 := (balloc w3 (.cells #[] 3)).grown hg (by simp) (fun k hk => by simp [Value.ownBlock] at hk; omega)
            have HRN := Lib.hid (show IntRow w5 hi v5 (z :: r') from own_lower (by first | exact hown | simpa using hown) HSZ3.out)
            have HP5 := Lib.hid (HP4.out.keep hb5)
            have HB5 := Lib.hid (bthen HB3.out hb5)
            have HSZ5 := Lib.hid (Nat.le_trans HSZ3.out hb5.size)
            obtain ⟨va, vc, rfl⟩ := own_shape hown
            clear hown hg hb5
            go_wp2_with fail
            go_roundw
            case rel => exact ⟨j + 1, (z :: r'), by omega, by go_num, by omega, HRN, HP5, HB5, HSZ5⟩
            case measure => simp [intOf]; omega
      · obtain rfl : j = k + 1 := by omega
        have e1 : decide (((k + 1 : Nat) : Int) < (k : Int) + 1) = false := decide_eq_false (by omega)
        have e5 : True := trivial
        go_wp2_with fail
        go_ret
        exact ⟨rfl, HBW.out⟩
set_option maxRecDepth 100000 in
set_option maxHeartbeats 16000000 in
theorem portRows_s (xs : List Int) (v : Value) (sz : Int) (w : World) (hv : IntsV w v xs) :
    Calls Try.prog 5 #[v, .int .i64 sz, .bool true] w fun e w' => e = .returned (.bool true) ∧ Below w.heap.size w w' := by
  obtain ⟨a, cap, rfl, hsm, -, -, -⟩ := id hv
  have HV := Lib.hid hv
  obtain ⟨k0, hk0, hk8⟩ := mod_u64x sz 8 (by decide)
  rw [show ((8 : Nat) : Int) = 8 from rfl] at hk0
  obtain ⟨k, hkk⟩ : ∃ k, k = k0 + 1 := ⟨_, rfl⟩
  have HKI0 := Lib.hid (show (k0 : Int) + 1 = (k : Int) by omega)
  have hk18 : 1 ≤ k ∧ k ≤ 8 := by omega
  have hw1 : IntKind.i64.wrap (k0 : Int) = (k0 : Int) := by rw [IntKind.wrap_i64]; omega
  have hw2 : IntKind.u64.wrap (k0 : Int) = (k0 : Int) := by rw [IntKind.wrap_u64]; omega
  have hw3 : IntKind.i64.wrap (1 + (k0 : Int)) = (k0 : Int) + 1 := by rw [IntKind.wrap_i64]; omega
  clear hv hkk hk8
  go_enter Try.func5, Try.ntmps5
  go_wp2_with fail
  refine (awake17 _).mono ?_
  rintro e w0 ⟨rfl, hb⟩
  have HB0 := Lib.hid hb
  clear hb
  go_wp2_with fail
  refine (plainAt17_any _).mono ?_
  rintro e w1 ⟨b, rfl, hbw, hpl, hb⟩
  have hpb := PlainB.of hpl
  have hlt6 := hpb.lt
  have o0 := BlockIs.of hpb.h6 0 _ rfl
  have o1 := BlockIs.of hpb.h6 1 _ rfl
  have o2 := BlockIs.of hpb.h6 2 _ rfl
  have o3 := BlockIs.of hpb.h6 3 _ rfl
  have f0 := thaw hpb.h6 0
  have f1 := thaw hpb.h6 1
  have f2 := thaw hpb.h6 2
  have f3 := thaw hpb.h6 3
  have hBB : w.heap.size ≤ b + 6 := by have := HB0.out.size; omega
  have hgs : w1.grownBy (((((w1.setCell ⟨b + 6, 3, none⟩ (.int .i64 (k : Int))).setCell ⟨b + 6, 0, none⟩ (.int .i64 0)).setCell ⟨b + 6, 1, none⟩ (.int .i64 0)).setCell ⟨b + 6, 2, none⟩ (.int .i64 1)).setCell ⟨b + 6, 3, none⟩ (.int .i64 1)) (some (b + 6)) := grown_trans (grown_trans (grown_trans (grown_trans (set_grown _ _ _ _) (set_grown _ _ _ _)) (set_grown _ _ _ _)) (set_grown _ _ _ _)) (set_grown _ _ _ _)
  have hps : PlainB (((((w1.setCell ⟨b + 6, 3, none⟩ (.int .i64 (k : Int))).setCell ⟨b + 6, 0, none⟩ (.int .i64 0)).setCell ⟨b + 6, 1, none⟩ (.int .i64 0)).setCell ⟨b + 6, 2, none⟩ (.int .i64 1)).setCell ⟨b + 6, 3, none⟩ (.int .i64 1)) b plT1 plI1 plI2 plT3 (plC4 b) plW1 plW2 ⟨0, 0, 1, 1⟩ := hpb.any6 hgs (by have h := blk_set (blk_set (blk_set (blk_set (blk_set hpb.h6 3 (.int .i64 (k : Int))) 0 (.int .i64 0)) 1 (.int .i64 0)) 2 (.int .i64 1)) 3 (.int .i64 1); simpa using h)
  have hbs := bput (bthen HB0.out hb) hgs hBB (Nat.le_refl _)
  have hss : (((((w1.setCell ⟨b + 6, 3, none⟩ (.int .i64 (k : Int))).setCell ⟨b + 6, 0, none⟩ (.int .i64 0)).setCell ⟨b + 6, 1, none⟩ (.int .i64 0)).setCell ⟨b + 6, 2, none⟩ (.int .i64 1)).setCell ⟨b + 6, 3, none⟩ (.int .i64 1)).heap.size = w1.heap.size := by simp
  obtain ⟨ws, hws⟩ : ∃ ws, ws = ((((w1.setCell ⟨b + 6, 3, none⟩ (.int .i64 (k : Int))).setCell ⟨b + 6, 0, none⟩ (.int .i64 0)).setCell ⟨b + 6, 1, none⟩ (.int .i64 0)).setCell ⟨b + 6, 2, none⟩ (.int .i64 1)).setCell ⟨b + 6, 3, none⟩ (.int .i64 1) := ⟨_, rfl⟩
  rw [← hws] at hps hbs hss
  obtain ⟨w6, hw_w6⟩ : ∃ w6, w6 = ws.alloc (.cells #[.int .i64 10, .int .i64 2, plainPs b, plainWs b, plainOs b] 26) := ⟨_, rfl⟩
  obtain ⟨ga, hg_ga⟩ : ∃ ga, ga = ws.heap.size := ⟨_, rfl⟩
  have hb_w6 : Below ws.heap.size ws w6 := by rw [hw_w6]; exact balloc _ _
  have hk_ga : w6.heap[ga]? = some (.cells #[.int .i64 10, .int .i64 2, plainPs b, plainWs b, plainOs b] 26 (0, 0)) := by rw [hw_w6, hg_ga]; exact blk_new _ _
  have hs_w6 : w6.heap.size = ws.heap.size + 1 := by rw [hw_w6]; simp
  have HPS := Lib.hid (hps.keep hb_w6)
  have HB6 := Lib.hid (bthen hbs hb_w6)
  have HWS := Lib.hid hss
  clear hb hpl hpb hps hbs hb_w6 hs_w6 hk_ga hbw hBB hgs hss
  go_wp2_with fail
  simp only [HKI0.out]
  rw [← hws]
  (try rw [← HWS.out])
  rw [← hw_w6]
  clear hws hw_w6 hg_ga hlt6 o0 o1 o2 o3 f0 f1 f2 f3
  refine (ports_make (rowCfg ⟨0, 0, 1, 1⟩) _ _ ⟨_, _, _, rfl, HPS.out.is 10 2⟩ (by decide)).mono ?_
  rintro e w7 ⟨pb, rfl, hp, hb⟩
  have HP7 := Lib.hid (show PortsIs w7 pb w6.heap.size w7.heap.size [(⟨0, 0, 1, 1⟩, [])] from hp)
  have HB7 := Lib.hid (bthen HB6.out hb)
  have HLO := Lib.hid HB6.out.size
  obtain ⟨lo, hlo⟩ : ∃ lo, lo = w6.heap.size := ⟨_, rfl⟩
  obtain ⟨hi, hhi⟩ : ∃ hi, hi = w7.heap.size := ⟨_, rfl⟩
  rw [← hlo] at HP7 HLO
  rw [← hhi] at HP7
  have hhi7 : hi ≤ w7.heap.size := by omega
  clear hp hb hlo hhi HPS HWS
  go_upto_block 0 with (first | (go_at_call 11; refine (num_any _ _).mono ?_; rintro e w' ⟨rfl, hw⟩; subst w') | fail)
  have HLH := Lib.hid (show w.heap.size ≤ hi by have := HLO.out; have h := HP7.out; obtain ⟨Ls, h1, h2⟩ := h; have := h1.pb1; have := h1.pb2; omega)
  go_cut [11] (fun r wx => ∃ R : List Int, R.length ≤ 1 ∧ Hid (IntRow wx hi r R) ∧ Hid (PortsIs wx pb lo hi [(⟨0, 0, 1, 1⟩, R)]) ∧ Hid (Below w.heap.size w wx) ∧ Hid (hi ≤ wx.heap.size))
  case first =>
    go_wp2_with fail
    go_loopw [11, 12] (fun r a wr => ∃ (i : Nat) (R : List Int), i ≤ xs.length ∧ i ≤ 30 ∧ a = .int .i64 i ∧ R.length ≤ 1 ∧ Hid (IntRow wr hi r R) ∧ Hid (PortsIs wr pb lo hi [(⟨0, 0, 1, 1⟩, R)]) ∧ Hid (Below w.heap.size w wr) ∧ Hid (hi ≤ wr.heap.size)) (fun _ a _ => 30 - (intOf a).toNat)
    case atStart => exact ⟨0, [], by omega, by omega, rfl, by simp, Lib.hid (World.ownsRow_nil _ _ _ _), HP7, HB7, Lib.hid hhi7⟩
    case round =>
      obtain ⟨i, R, hi', hi30, rfl, hR, HR, HP, HBW, HSZ⟩ := hrel
      by_cases hlt : i < xs.length
      · by_cases h30 : i < 30
        · have c1 : (i : Int) < 30 := by omega
          obtain ⟨x, hx⟩ : ∃ x, x = bits BinOp.and IntKind.i64 xs[i] 65535 := ⟨_, rfl⟩
          have hx0 : 0 ≤ x ∧ x < 65536 := by rw [hx, i64_and65535]; omega
          obtain ⟨bw, off, cp, e, hy⟩ := HV.out.get hlt
          injection e with e _ e3
          subst e
          subst e3
          have hy := IntAt.ext (Ext.below HBW.out) hy
          unfold IntAt at hy
          by_cases hfull : R.length = 1
          · have hd : wDrop [(⟨0, 0, 1, 1⟩, R)] 0 0 x = false := by rw [one_drop _ R x rfl hx0.1 hx0.2]; rfl
            have HX := Lib.hid hx
            go_wp2_with fail
            rw [← hx]
            refine (ports_write pb lo hi _ 0 0 x _ HP.out).mono ?_
            rw [(one_st ⟨0, 0, 1, 1⟩ R x rfl hx0.1 hx0.2).1, (one_st ⟨0, 0, 1, 1⟩ R x rfl hx0.1 hx0.2).2, row_sample R hR x, hd]
            rintro e w3 ⟨rfl, hp, hkk⟩
            have HP3 := Lib.hid hp
            have HB3 := Lib.hid (HBW.out.trans (between_below hkk HBW.out.size HLO.out))
            have HR3 := Lib.hid (show IntRow w3 hi u11 R from Keeps.own HR.out hkk (fun g hg hf => by have := (HR.out.lt g hg).1; have := hf.2; omega))
            have HSZ3 := Lib.hid (Nat.le_trans HSZ.out hkk.size)
            obtain ⟨ra, rc, hrr⟩ := own_shape HR3.out
            subst hrr
            clear hp hkk hd hx
            have HF := Lib.hid hfull
            clear hfull
            go_wp2_with (first | (go_at_call 11; refine (num_any _ _).mono ?_; rintro e w' ⟨rfl, hw⟩; subst w') | (at_builtin; refine append_elem rfl (.tmp 87) (.tmp 89) 49 rfl hi 3 _ 1 8 Try.underlying49 infoInt rfl (by decide) (.slice ra R.length rc) R.length _ rfl HR3.out (intCell x) w3.heap.size rfl rfl rfl rfl (by omega) (by omega) HSZ3.out ?_))

            intro v2 w4 hown hbel hg
            have hff := HF.out
            have hro := IntRow.snoc rfl hown
            have HP4 := Lib.hid (HP3.out.over hbel)
            have HB4 := Lib.hid (HB3.out.trans (hbel.mono HLH.out))
            have HSZ4 := Lib.hid (Nat.le_trans HSZ3.out hbel.size)
            have hl4 : (R ++ [x]).length = R.length + 1 := by simp

            rcases hro.2 with ⟨_, h0⟩ | ⟨g4, c4, cur4, e4, hB4, hh4, hnc, hcm, hlen4, htake⟩
            · rw [hl4] at h0; omega
            have hro' := hro
            rw [e4, hl4] at hro'
            have HI4 := Lib.hid (IntRow.ints hro' (by rw [hl4]; omega))
            obtain rfl : v2 = .slice (some ⟨g4, 0, none⟩) (R.length + 1) c4 := by rw [e4, hl4]
            have HSRC := Lib.hid (src_drop1 (w := w4.alloc (.cells #[] 3)) (IntsV.ext (Ext.alloc w4 _) HI4.out) (by rw [hl4]; omega))
            have hc4 : R.length + 1 ≤ c4 := by rw [hl4] at hnc; exact hnc
            have d1 : ¬ c4 = 1 := by omega
            have d2 : (1 : Int) ≤ ((R.length + 1 : Nat) : Int) := by omega
            have d3 : R.length + 1 - 1 = R.length := by omega
            rw [d3] at HSRC
            have d4 : decide (1 < (R.length : Int) + 1) = true := decide_eq_true (by omega)
            have d5 : 1 ≤ (R.length : Int) := by omega
            have d6 : decide (1 ≤ (R.length : Int)) = true := decide_eq_true (by omega)
            have hdl : ((R ++ [x]).drop 1).length = R.length := by rw [List.length_drop, hl4]; omega
            clear hff hown hbel hg hro hro' e4 hB4 hh4 hnc hcm hlen4 htake
            go_wp2_with (at_builtin; refine wpList_onto _ rfl (.tmp 95) (.tmp 97) 49 rfl w4.heap.size 3 _ 1 8 Try.underlying49 infoInt rfl (by decide) (.slice (some ⟨w4.heap.size, 0, none⟩) 0 0) 0 [] rfl (own_lit w4 _ _) R.length _ HSRC.out (by rw [flat_len intCell 1 (fun _ => rfl), hdl]) (fun u hu => flatInt_one _ u hu) (by simp only [maxLen]; omega) (by omega) (by simp) ?_)
            intro v5 w5 hown hg
            have hb5 : Below w4.heap.size w4 w5 := (balloc w4 (.cells #[] 3)).grown hg (by simp) (fun k hk => by simp [Value.ownBlock] at hk; omega)
            have HRN := Lib.hid (show IntRow w5 hi v5 (rowNext 1 R x) by
              unfold rowNext
              have := HF.out
              rw [if_pos (by rw [hl4]; omega)]
              unfold IntRow
              rw [hdl]
              exact own_lower (by simpa using hown) HSZ4.out)
            have HP5 := Lib.hid (HP4.out.keep hb5)
            have HB5 := Lib.hid (bthen HB4.out hb5)
            have HSZ5 := Lib.hid (Nat.le_trans HSZ4.out hb5.size)
            obtain ⟨va, vc, rfl⟩ := own_shape hown
            clear hown hg hb5

            obtain ⟨Rn, hRn⟩ : ∃ Rn, Rn = rowNext 1 R x := ⟨_, rfl⟩
            have hnl : Rn.length ≤ 1 ∧ 0 < Rn.length := by rw [hRn]; exact rowNext_len (by omega) R hR x
            rw [← hRn] at HRN HP5
            clear hRn hy
            go_wp2_with fail
            refine (ports_gets pb lo hi _ 1 _ HP5.out (by simp)).mono ?_
            rw [one_gets _ _ rfl]
            rintro e w6 ⟨gv, rfl, hg, hb⟩
            have HR6 := Lib.hid (show IntRow w6 hi _ Rn from Below.kept HRN.out hb)
            have HRI := Lib.hid (HR6.out.ints (by omega))
            have HG6 := Lib.hid (IntRow.ints hg (by simp))
            have HP6 := Lib.hid (HP5.out.keep hb)
            have HB6 := Lib.hid (bthen HB5.out hb)
            have HSZ6 := Lib.hid (Nat.le_trans HSZ5.out hb.size)
            obtain ⟨ga, gc, rfl, -, -, -, -⟩ := id HG6.out
            rw [show ([Rn.headD 0]).length = 1 from rfl]
            obtain ⟨b1, o1, c1', e, y1⟩ := HG6.out.get (k := 0) (by simp)
            injection e with e _ e3
            subst e
            subst e3
            obtain ⟨b2, o2, c2', e, y2⟩ := HRI.out.get (k := 0) hnl.2
            injection e with e en e3
            subst e
            subst e3
            have hh : [Rn.headD 0][0]'(by simp) = Rn[0]'hnl.2 := by cases Rn with | nil => exact absurd hnl.2 (by simp) | cons y r => rfl
            rw [hh] at y1
            unfold IntAt at y1 y2
            simp only [Nat.add_zero] at y1 y2
            have HNL := Lib.hid hnl
            have HEN := Lib.hid en
            clear hg hb hh en
            go_wp2_with fail
            go_quiet (fail)
            go_wp2_with fail
            go_roundw
            case rel => exact ⟨i + 1, Rn, by omega, by omega, by go_num, HNL.out.1, Lib.hid (Below.kept HR6.out (below_drewN (Below.refl _ _) _)), Lib.hid (HP6.out.keep (below_drewN (Below.refl _ _) _)), Lib.hid (below_drewN HB6.out _), Lib.hid HSZ6.out⟩
            case measure => simp [intOf]; omega
          · have hd : wDrop [(⟨0, 0, 1, 1⟩, R)] 0 0 x = false := by rw [one_drop _ R x rfl hx0.1 hx0.2]; rfl
            have HX := Lib.hid hx
            go_wp2_with fail
            rw [← hx]
            refine (ports_write pb lo hi _ 0 0 x _ HP.out).mono ?_
            rw [(one_st ⟨0, 0, 1, 1⟩ R x rfl hx0.1 hx0.2).1, (one_st ⟨0, 0, 1, 1⟩ R x rfl hx0.1 hx0.2).2, row_sample R hR x, hd]
            rintro e w3 ⟨rfl, hp, hkk⟩
            have HP3 := Lib.hid hp
            have HB3 := Lib.hid (HBW.out.trans (between_below hkk HBW.out.size HLO.out))
            have HR3 := Lib.hid (show IntRow w3 hi u11 R from Keeps.own HR.out hkk (fun g hg hf => by have := (HR.out.lt g hg).1; have := hf.2; omega))
            have HSZ3 := Lib.hid (Nat.le_trans HSZ.out hkk.size)
            obtain ⟨ra, rc, hrr⟩ := own_shape HR3.out
            subst hrr
            clear hp hkk hd hx
            have HF := Lib.hid hfull
            clear hfull
            go_wp2_with (first | (go_at_call 11; refine (num_any _ _).mono ?_; rintro e w' ⟨rfl, hw⟩; subst w') | (at_builtin; refine append_elem rfl (.tmp 87) (.tmp 89) 49 rfl hi 3 _ 1 8 Try.underlying49 infoInt rfl (by decide) (.slice ra R.length rc) R.length _ rfl HR3.out (intCell x) w3.heap.size rfl rfl rfl rfl (by omega) (by omega) HSZ3.out ?_))

            intro v2 w4 hown hbel hg
            have hff := HF.out
            have hro := IntRow.snoc rfl hown
            have HP4 := Lib.hid (HP3.out.over hbel)
            have HB4 := Lib.hid (HB3.out.trans (hbel.mono HLH.out))
            have HSZ4 := Lib.hid (Nat.le_trans HSZ3.out hbel.size)
            have hl4 : (R ++ [x]).length = R.length + 1 := by simp

            have HRN' := Lib.hid (show IntRow w4 hi v2 (rowNext 1 R x) by unfold rowNext; rw [if_neg (by rw [hl4]; omega)]; exact hro)
            obtain ⟨va, vc, e2⟩ := own_shape hown
            subst e2
            have d4 : decide (1 < (R.length : Int) + 1) = false := decide_eq_false (by omega)
            have d5 : ¬ 1 ≤ (R.length : Int) := by omega
            have d6 : decide (1 ≤ (R.length : Int)) = false := decide_eq_false (by omega)
            have HRN := HRN'
            obtain ⟨w5, hw5⟩ : ∃ w5, w5 = w4 := ⟨_, rfl⟩
            have HP5 := Lib.hid (show PortsIs w5 pb lo hi _ by rw [hw5]; exact HP4.out)
            have HB5 := Lib.hid (show Below w.heap.size w w5 by rw [hw5]; exact HB4.out)
            have HSZ5 := Lib.hid (show hi ≤ w5.heap.size by rw [hw5]; exact HSZ4.out)
            rw [← hw5] at HRN ⊢
            clear hff hown hbel hg hro hw5 HRN'

            obtain ⟨Rn, hRn⟩ : ∃ Rn, Rn = rowNext 1 R x := ⟨_, rfl⟩
            have hnl : Rn.length ≤ 1 ∧ 0 < Rn.length := by rw [hRn]; exact rowNext_len (by omega) R hR x
            rw [← hRn] at HRN HP5
            clear hRn hy
            go_wp2_with fail
            refine (ports_gets pb lo hi _ 1 _ HP5.out (by simp)).mono ?_
            rw [one_gets _ _ rfl]
            rintro e w6 ⟨gv, rfl, hg, hb⟩
            have HR6 := Lib.hid (show IntRow w6 hi _ Rn from Below.kept HRN.out hb)
            have HRI := Lib.hid (HR6.out.ints (by omega))
            have HG6 := Lib.hid (IntRow.ints hg (by simp))
            have HP6 := Lib.hid (HP5.out.keep hb)
            have HB6 := Lib.hid (bthen HB5.out hb)
            have HSZ6 := Lib.hid (Nat.le_trans HSZ5.out hb.size)
            obtain ⟨ga, gc, rfl, -, -, -, -⟩ := id HG6.out
            rw [show ([Rn.headD 0]).length = 1 from rfl]
            obtain ⟨b1, o1, c1', e, y1⟩ := HG6.out.get (k := 0) (by simp)
            injection e with e _ e3
            subst e
            subst e3
            obtain ⟨b2, o2, c2', e, y2⟩ := HRI.out.get (k := 0) hnl.2
            injection e with e en e3
            subst e
            subst e3
            have hh : [Rn.headD 0][0]'(by simp) = Rn[0]'hnl.2 := by cases Rn with | nil => exact absurd hnl.2 (by simp) | cons y r => rfl
            rw [hh] at y1
            unfold IntAt at y1 y2
            simp only [Nat.add_zero] at y1 y2
            have HNL := Lib.hid hnl
            have HEN := Lib.hid en
            clear hg hb hh en
            go_wp2_with fail
            go_quiet (fail)
            go_wp2_with fail
            go_roundw
            case rel => exact ⟨i + 1, Rn, by omega, by omega, by go_num, HNL.out.1, Lib.hid (Below.kept HR6.out (below_drewN (Below.refl _ _) _)), Lib.hid (HP6.out.keep (below_drewN (Below.refl _ _) _)), Lib.hid (below_drewN HB6.out _), Lib.hid HSZ6.out⟩
            case measure => simp [intOf]; omega
        · obtain rfl : i = 30 := by omega
          have c1 : (30 : Int) < (xs.length : Int) := by omega
          go_wp2_with fail
          go_meet
          exact ⟨R, hR, HR, HP, HBW, HSZ⟩
      · obtain rfl : i = xs.length := by omega
        go_wp2_with fail
        go_meet
        exact ⟨R, hR, HR, HP, HBW, HSZ⟩
  case rest =>
    obtain ⟨R, hR, HR, HP, HBW, HSZ⟩ := hcut
    have q1 : IntKind.i64.wrap ((1 : Int) + 1) = (1 : Int) + 1 := by rw [IntKind.wrap_i64]; omega
    go_wp2_with fail
    go_loopw [11, 17] (fun r a wr => ∃ (j : Nat) (R : List Int), j ≤ 1 + 1 ∧ a = .int .i64 j ∧ R.length ≤ 1 ∧ Hid (IntRow wr hi r R) ∧ Hid (PortsIs wr pb lo hi [(⟨0, 0, 1, 1⟩, R)]) ∧ Hid (Below w.heap.size w wr) ∧ Hid (hi ≤ wr.heap.size)) (fun _ a _ => 1 + 1 - (intOf a).toNat)
    case atStart => exact ⟨0, R, by omega, rfl, hR, HR, HP, HBW, HSZ⟩
    case round =>
      clear hR HR HP HBW HSZ
      obtain ⟨j, R, hj, rfl, hR, HR, HP, HBW, HSZ⟩ := hrel
      by_cases hlt : j < 1 + 1
      · have e1 : decide ((j : Int) < (1 : Int) + 1) = true := decide_eq_true (by omega)
        have e2 : decide ((j : Int) ≤ (1 : Int)) = true := decide_eq_true (by omega)
        have e3 : (j : Int) < (1 : Int) + 1 := by omega
        have e4 : (j : Int) ≤ (1 : Int) := by omega
        have e5 : (j : Int) < 2 := by omega
        go_wp2_with fail
        refine (ports_take pb lo hi _ 1 0 _ HP.out).mono ?_
        rw [(one_take ⟨0, 0, 1, 1⟩ R rfl).1, (one_take ⟨0, 0, 1, 1⟩ R rfl).2.1, (one_take ⟨0, 0, 1, 1⟩ R rfl).2.2.1, (one_take ⟨0, 0, 1, 1⟩ R rfl).2.2.2]
        rintro e w3 ⟨rfl, hp, hkk⟩
        have HB3 := Lib.hid (HBW.out.trans (between_below hkk HBW.out.size HLO.out))
        have HR3 := Lib.hid (show IntRow w3 hi u11 R from Keeps.own HR.out hkk (fun g hg hf => by have := (HR.out.lt g hg).1; have := hf.2; omega))
        have HSZ3 := Lib.hid (Nat.le_trans HSZ.out hkk.size)
        have HP3 := Lib.hid hp
        obtain ⟨ra, rc, hrr⟩ := own_shape HR3.out
        subst hrr
        clear hp hkk e1 e2 e3 e4
        rcases R with _ | ⟨y, r⟩
        · have HP3' := Lib.hid (show PortsIs w3 pb lo hi [(⟨0, 0, 1, 1⟩, [])] from HP3.out)
          go_wp2_with (first | (go_at_call 11; refine (num_any _ _).mono ?_; rintro e w' ⟨rfl, hw⟩; subst w') | fail)
          go_roundw
          case rel => exact ⟨j + 1, [], by omega, by go_num, by simp, HR3, HP3', HB3, HSZ3⟩
          case measure => simp [intOf]; omega
        · have HRI := Lib.hid (HR3.out.ints (by omega))
          obtain ⟨b1, o1, c1', e, y1⟩ := HRI.out.get (k := 0) (by simp)
          rw [List.length_cons] at e
          injection e with e _ e3
          subst e
          subst e3
          unfold IntAt at y1
          simp only [Nat.add_zero, List.getElem_cons_zero] at y1
          have d1 : decide ((0 : Int) < (r.length : Int) + 1) = true := decide_eq_true (by omega)
          have d2 : (0 : Int) < (r.length : Int) + 1 := by omega
          have d3 : (0 : Int) ≤ (r.length : Int) := by omega
          have hrl : r.length + 1 ≤ 1 := by simpa using hR
          rw [show ((y :: r : List Int).headD 0) = y from rfl, show (!(y :: r : List Int).isEmpty) = true from rfl]
          have HP4 := Lib.hid (show PortsIs w3 pb lo hi [(⟨0, 0, 1, 1⟩, y :: r)] from HP3.out)
          go_wp2_with (first | (go_at_call 11; refine (num_any _ _).mono ?_; rintro e w' ⟨rfl, hw⟩; subst w') | fail)
          go_roundw
          case rel => exact ⟨j + 1, y :: r, by omega, by go_num, by simpa using hR, HR3, HP4, HB3, HSZ3⟩
          case measure => simp [intOf]; omega
      · obtain rfl : j = 1 + 1 := by omega
        have e1 : decide (((1 + 1 : Nat) : Int) < (1 : Int) + 1) = false := decide_eq_false (by omega)
        have e5 : ¬ (((1 + 1 : Nat) : Int) < 2) := by omega
        go_wp2_with fail
        go_ret
        exact ⟨rfl, HBW.out⟩
theorem portRows_any (xs : List Int) (v : Value) (sz : Int) (sm : Bool) (w : World) (hv : IntsV w v xs) :
    Calls Try.prog 5 #[v, .int .i64 sz, .bool sm] w fun e w' => e = .returned (.bool true) ∧ Below w.heap.size w w' := by
  cases sm
  · exact portRows_q xs v sz w hv
  · exact portRows_s xs v sz w hv
end Go.Proofs.Ytkjjfidbmkpljaa
