/- Chapter 17's law PortForms. -/
import Derived.Test.YtkjjfidbmkpljaaLaw17a
import Derived.Deep.CutBlock
set_option linter.unusedVariables false
set_option linter.unusedSimpArgs false
namespace Go.Proofs.Ytkjjfidbmkpljaa
open Go.RowKit

theorem PlainB.set6 {W : World} {b : Nat} {t1 : Task} {i1 i2 : Instr} {t3 : Task} {c4 : Array Value} {x1 x2 : Window} {o : Port} (h : PlainB W b t1 i1 i2 t3 c4 x1 x2 o) (f : Int) : PlainB (W.setCell ⟨b + 6, 1, none⟩ (.int .i64 f)) b t1 i1 i2 t3 c4 x1 x2 ⟨o.kind, f, o.to_, o.size⟩ :=
  ⟨set_at _ h.h1 (by omega), set_at _ h.h2 (by omega), set_at _ h.h3 (by omega), set_at _ h.h4 (by omega), set_at _ h.h5 (by omega), blk_set h.h6 1 (.int .i64 f)⟩
def foA (part port x : Int) : Int := if port ≠ 0 ∨ x < 0 ∨ 4294967296 ≤ x then 1700 else if part ≠ 0 then 1701 else 0
def foB (part port : Int) : Int := if port ≠ 0 then 1700 else if part ≠ 1 then 1701 else 0
theorem fo_w (part port x : Int) : wErr [(aP, [])] part port x = foA part port x := by
  unfold wErr foA
  by_cases h : port ≠ 0 ∨ x < 0 ∨ 4294967296 ≤ x
  · rw [if_pos (by simp only [List.length_cons, List.length_nil]; omega), if_pos h]
  · have hp : port = 0 := by omega
    subst hp
    rw [if_neg (by simp only [List.length_cons, List.length_nil]; omega), if_neg h]
    by_cases h2 : part = 0
    · subst h2; rfl
    · rw [if_pos (show ((List.getD [(aP, ([] : List Int))] (0 : Int).toNat p0).1.from_ ≠ part) from fun e => h2 e.symm), if_pos h2]
theorem fo_len (part port x : Int) : ∃ q, wSt [(aP, [])] part port x = [(aP, q)] := by
  unfold wSt
  split
  · rename_i h
    have : port.toNat = 0 := by
      rw [fo_w] at h
      unfold foA at h
      split at h
      · simp at h
      · omega
    rw [this]
    exact ⟨_, rfl⟩
  · exact ⟨_, rfl⟩
theorem fo_t (part port : Int) (q : List Int) : tErr [(aP, q)] part port = foB part port := by
  unfold tErr foB
  by_cases h : port ≠ 0
  · rw [if_pos (by simp only [List.length_cons, List.length_nil]; omega), if_pos h]
  · have hp : port = 0 := by omega
    subst hp
    rw [if_neg (by simp only [List.length_cons, List.length_nil]; omega), if_neg h]
    by_cases h2 : part = 1
    · subst h2; rfl
    · rw [if_pos (show ((List.getD [(aP, q)] (0 : Int).toNat p0).1.to_ ≠ part) from fun e => h2 e.symm), if_pos h2]
set_option maxRecDepth 100000 in
set_option maxHeartbeats 16000000 in
theorem portForms_any (part port x : Int) (w : World) :
    Calls Try.prog 6 #[.int .i64 part, .int .i64 port, .int .i64 x] w fun e w' => e = .returned (.bool true) ∧ Below w.heap.size w w' := by
  go_enter Try.func6, Try.ntmps6
  go_wp2_with fail
  refine (awake17 _).mono ?_
  rintro e w0 ⟨rfl, hb⟩
  have HB0 := Lib.hid hb
  clear hb
  go_wp2_with fail
  refine (plain17_any _).mono ?_
  rintro e w1 ⟨v, rfl, hc, hb⟩
  have HB1 := Lib.hid (bthen HB0.out hb)
  clear hb
  go_wp2_with fail
  refine (ports_make plainCfg v w1 hc (by decide)).mono ?_
  rintro e w2 ⟨pb, rfl, hp, hb⟩
  have HP2 := Lib.hid (show PortsIs w2 pb w1.heap.size w2.heap.size [(aP, [])] from hp)
  have HB2 := Lib.hid (bthen HB1.out hb)
  have HLO := Lib.hid HB1.out.size
  obtain ⟨lo, hlo⟩ : ∃ lo, lo = w1.heap.size := ⟨_, rfl⟩
  obtain ⟨hi, hhi⟩ : ∃ hi, hi = w2.heap.size := ⟨_, rfl⟩
  rw [← hlo] at HP2 HLO
  rw [← hhi] at HP2
  clear hc hp hb hlo hhi
  go_wp2_with (first | (go_at_call 11; refine (num_any _ _).mono ?_; rintro e w' ⟨rfl, hw⟩; subst w') | fail)
  refine (ports_write pb lo hi _ part port x _ HP2.out).mono ?_
  obtain ⟨q, hq⟩ := fo_len part port x
  rw [fo_w, hq]
  rintro e w3 ⟨rfl, hp, hk⟩
  obtain ⟨dr, hdr⟩ : ∃ dr, dr = wDrop [(aP, [])] part port x := ⟨_, rfl⟩
  rw [← hdr]
  have HP3 := Lib.hid hp
  have HB3 := Lib.hid (HB2.out.trans (between_below hk HB2.out.size HLO.out))
  clear hp hk hdr hq
  go_wp2_with fail
  refine (ports_take pb lo hi _ part port _ HP3.out).mono ?_
  rw [fo_t]
  rintro e w4 ⟨rfl, hp, hk⟩
  obtain ⟨tv, htv⟩ : ∃ tv, tv = tVal [(aP, q)] part port := ⟨_, rfl⟩
  obtain ⟨ti, hti⟩ : ∃ ti, ti = tIs [(aP, q)] part port := ⟨_, rfl⟩
  rw [← htv, ← hti]
  have HB4 := Lib.hid (HB3.out.trans (between_below hk HB3.out.size HLO.out))
  obtain ⟨fa, hfa⟩ : ∃ fa, fa = foA part port x := ⟨_, rfl⟩
  obtain ⟨fb, hfb⟩ : ∃ fb, fb = foB part port := ⟨_, rfl⟩
  rw [← hfa, ← hfb]
  clear hp hk htv hti
  have hx : decide (0 ≤ x) = true ∧ decide (x < 4294967296) = true ∨ decide (0 ≤ x) = false ∨ decide (0 ≤ x) = true ∧ decide (x < 4294967296) = false := by
    by_cases h1 : 0 ≤ x <;> by_cases h2 : x < 4294967296 <;> simp [h1, h2]
  rcases hx with ⟨x1, x2⟩ | x1 | ⟨x1, x2⟩
  · rcases (show part = 0 ∨ part = 1 ∨ part ≠ 0 ∧ part ≠ 1 by omega) with hpa | hpa | hpa
    · by_cases hpo : port = 0
      · have b1 : (part != 0) = false := by rw [hpa]; rfl
        have b2 : (part != 1) = true := by rw [hpa]; rfl
        have b3 : (port != 0) = false := by simpa using hpo
        have e1 : fa = 0 := by
          rw [hfa]; unfold foA
          simp only [decide_eq_true_eq] at x1 x2
          rw [if_neg (by omega), if_neg (by omega)]
        have e2 : fb = 1701 := by
          rw [hfb]; unfold foB
          rw [if_neg (by omega), if_pos (by omega)]
        subst e1
        subst e2
        clear hfa hfb hpa hpo
        go_wp2_with fail
        refine (plainAt17_any _).mono ?_
        rintro e w5 ⟨b, rfl, hbw, hpl, hb⟩
        have hpb := PlainB.of hpl
        have o1 := BlockIs.of hpb.h6 1 _ rfl
        have f1 := thaw hpb.h6 1
        have hlt6 : b + 6 < w5.heap.size := hpb.lt
        have hps := hpb.set6 1
        have hBB : w.heap.size ≤ b + 6 := by have := HB4.out.size; omega
        have hbs := bput (bthen HB4.out hb) (set_grown w5 (b + 6) 1 (.int .i64 1)) hBB (Nat.le_refl _)
        obtain ⟨ws, hws⟩ : ∃ ws, ws = w5.setCell ⟨b + 6, 1, none⟩ (.int .i64 1) := ⟨_, rfl⟩
        rw [← hws] at hps hbs
        obtain ⟨w6, hw_w6⟩ : ∃ w6, w6 = ws.alloc (.cells #[.int .i64 10, .int .i64 2, plainPs b, plainWs b, plainOs b] 26) := ⟨_, rfl⟩
        obtain ⟨ga, hg_ga⟩ : ∃ ga, ga = ws.heap.size := ⟨_, rfl⟩
        have hb_w6 : Below ws.heap.size ws w6 := by rw [hw_w6]; exact balloc _ _
        have hk_ga : w6.heap[ga]? = some (.cells #[.int .i64 10, .int .i64 2, plainPs b, plainWs b, plainOs b] 26 (0, 0)) := by rw [hw_w6, hg_ga]; exact blk_new _ _
        have hs_w6 : w6.heap.size = ws.heap.size + 1 := by rw [hw_w6]; simp
        have HPS := Lib.hid (hps.keep hb_w6)
        have HB6 := Lib.hid (bthen hbs hb_w6)
        have HWS := Lib.hid (show ws.heap.size = w5.heap.size by rw [hws]; simp)
        clear hb hpl hpb hps hbs hb_w6 hs_w6 hk_ga hbw hBB
        go_wp2_with fail
        rw [← hws]
        (try rw [← HWS.out])
        rw [← hw_w6]
        clear hws hw_w6 hg_ga hlt6 o1 f1
        refine (ports_none ⟨10, 2, [⟨1, [plT1], [plI1, plI2]⟩, ⟨0, [plT3], []⟩], [plW1, plW2], [⟨1, 1, 1, 2⟩]⟩ _ _ ⟨_, _, _, rfl, HPS.out.is 10 2⟩ (by decide)).mono ?_
        rintro e w7 ⟨rfl, hb⟩
        have HB7 := Lib.hid (bthen HB6.out hb)
        clear hb
        go_wp2_with (first | (go_at_call 11; refine (num_any _ _).mono ?_; rintro e w' ⟨rfl, hw⟩; subst w') | fail)
        go_ret
        exact ⟨rfl, HB7.out⟩
      · have b1 : (part != 0) = false := by rw [hpa]; rfl
        have b2 : (part != 1) = true := by rw [hpa]; rfl
        have b3 : (port != 0) = true := by simpa using hpo
        have e1 : fa = 1700 := by
          rw [hfa]; unfold foA
          simp only [decide_eq_true_eq] at x1 x2
          rw [if_pos (by omega)]
        have e2 : fb = 1700 := by
          rw [hfb]; unfold foB
          rw [if_pos hpo]
        subst e1
        subst e2
        clear hfa hfb hpa hpo
        go_wp2_with fail
        refine (plainAt17_any _).mono ?_
        rintro e w5 ⟨b, rfl, hbw, hpl, hb⟩
        have hpb := PlainB.of hpl
        have o1 := BlockIs.of hpb.h6 1 _ rfl
        have f1 := thaw hpb.h6 1
        have hlt6 : b + 6 < w5.heap.size := hpb.lt
        have hps := hpb.set6 1
        have hBB : w.heap.size ≤ b + 6 := by have := HB4.out.size; omega
        have hbs := bput (bthen HB4.out hb) (set_grown w5 (b + 6) 1 (.int .i64 1)) hBB (Nat.le_refl _)
        obtain ⟨ws, hws⟩ : ∃ ws, ws = w5.setCell ⟨b + 6, 1, none⟩ (.int .i64 1) := ⟨_, rfl⟩
        rw [← hws] at hps hbs
        obtain ⟨w6, hw_w6⟩ : ∃ w6, w6 = ws.alloc (.cells #[.int .i64 10, .int .i64 2, plainPs b, plainWs b, plainOs b] 26) := ⟨_, rfl⟩
        obtain ⟨ga, hg_ga⟩ : ∃ ga, ga = ws.heap.size := ⟨_, rfl⟩
        have hb_w6 : Below ws.heap.size ws w6 := by rw [hw_w6]; exact balloc _ _
        have hk_ga : w6.heap[ga]? = some (.cells #[.int .i64 10, .int .i64 2, plainPs b, plainWs b, plainOs b] 26 (0, 0)) := by rw [hw_w6, hg_ga]; exact blk_new _ _
        have hs_w6 : w6.heap.size = ws.heap.size + 1 := by rw [hw_w6]; simp
        have HPS := Lib.hid (hps.keep hb_w6)
        have HB6 := Lib.hid (bthen hbs hb_w6)
        have HWS := Lib.hid (show ws.heap.size = w5.heap.size by rw [hws]; simp)
        clear hb hpl hpb hps hbs hb_w6 hs_w6 hk_ga hbw hBB
        go_wp2_with fail
        rw [← hws]
        (try rw [← HWS.out])
        rw [← hw_w6]
        clear hws hw_w6 hg_ga hlt6 o1 f1
        refine (ports_none ⟨10, 2, [⟨1, [plT1], [plI1, plI2]⟩, ⟨0, [plT3], []⟩], [plW1, plW2], [⟨1, 1, 1, 2⟩]⟩ _ _ ⟨_, _, _, rfl, HPS.out.is 10 2⟩ (by decide)).mono ?_
        rintro e w7 ⟨rfl, hb⟩
        have HB7 := Lib.hid (bthen HB6.out hb)
        clear hb
        go_wp2_with (first | (go_at_call 11; refine (num_any _ _).mono ?_; rintro e w' ⟨rfl, hw⟩; subst w') | fail)
        go_ret
        exact ⟨rfl, HB7.out⟩
    · by_cases hpo : port = 0
      · have b1 : (part != 0) = true := by rw [hpa]; rfl
        have b2 : (part != 1) = false := by rw [hpa]; rfl
        have b3 : (port != 0) = false := by simpa using hpo
        have e1 : fa = 1701 := by
          rw [hfa]; unfold foA
          simp only [decide_eq_true_eq] at x1 x2
          rw [if_neg (by omega), if_pos (by omega)]
        have e2 : fb = 0 := by
          rw [hfb]; unfold foB
          rw [if_neg (by omega), if_neg (by omega)]
        subst e1
        subst e2
        clear hfa hfb hpa hpo
        go_wp2_with fail
        refine (plainAt17_any _).mono ?_
        rintro e w5 ⟨b, rfl, hbw, hpl, hb⟩
        have hpb := PlainB.of hpl
        have o1 := BlockIs.of hpb.h6 1 _ rfl
        have f1 := thaw hpb.h6 1
        have hlt6 : b + 6 < w5.heap.size := hpb.lt
        have hps := hpb.set6 1
        have hBB : w.heap.size ≤ b + 6 := by have := HB4.out.size; omega
        have hbs := bput (bthen HB4.out hb) (set_grown w5 (b + 6) 1 (.int .i64 1)) hBB (Nat.le_refl _)
        obtain ⟨ws, hws⟩ : ∃ ws, ws = w5.setCell ⟨b + 6, 1, none⟩ (.int .i64 1) := ⟨_, rfl⟩
        rw [← hws] at hps hbs
        obtain ⟨w6, hw_w6⟩ : ∃ w6, w6 = ws.alloc (.cells #[.int .i64 10, .int .i64 2, plainPs b, plainWs b, plainOs b] 26) := ⟨_, rfl⟩
        obtain ⟨ga, hg_ga⟩ : ∃ ga, ga = ws.heap.size := ⟨_, rfl⟩
        have hb_w6 : Below ws.heap.size ws w6 := by rw [hw_w6]; exact balloc _ _
        have hk_ga : w6.heap[ga]? = some (.cells #[.int .i64 10, .int .i64 2, plainPs b, plainWs b, plainOs b] 26 (0, 0)) := by rw [hw_w6, hg_ga]; exact blk_new _ _
        have hs_w6 : w6.heap.size = ws.heap.size + 1 := by rw [hw_w6]; simp
        have HPS := Lib.hid (hps.keep hb_w6)
        have HB6 := Lib.hid (bthen hbs hb_w6)
        have HWS := Lib.hid (show ws.heap.size = w5.heap.size by rw [hws]; simp)
        clear hb hpl hpb hps hbs hb_w6 hs_w6 hk_ga hbw hBB
        go_wp2_with fail
        rw [← hws]
        (try rw [← HWS.out])
        rw [← hw_w6]
        clear hws hw_w6 hg_ga hlt6 o1 f1
        refine (ports_none ⟨10, 2, [⟨1, [plT1], [plI1, plI2]⟩, ⟨0, [plT3], []⟩], [plW1, plW2], [⟨1, 1, 1, 2⟩]⟩ _ _ ⟨_, _, _, rfl, HPS.out.is 10 2⟩ (by decide)).mono ?_
        rintro e w7 ⟨rfl, hb⟩
        have HB7 := Lib.hid (bthen HB6.out hb)
        clear hb
        go_wp2_with (first | (go_at_call 11; refine (num_any _ _).mono ?_; rintro e w' ⟨rfl, hw⟩; subst w') | fail)
        go_ret
        exact ⟨rfl, HB7.out⟩
      · have b1 : (part != 0) = true := by rw [hpa]; rfl
        have b2 : (part != 1) = false := by rw [hpa]; rfl
        have b3 : (port != 0) = true := by simpa using hpo
        have e1 : fa = 1700 := by
          rw [hfa]; unfold foA
          simp only [decide_eq_true_eq] at x1 x2
          rw [if_pos (by omega)]
        have e2 : fb = 1700 := by
          rw [hfb]; unfold foB
          rw [if_pos hpo]
        subst e1
        subst e2
        clear hfa hfb hpa hpo
        go_wp2_with fail
        refine (plainAt17_any _).mono ?_
        rintro e w5 ⟨b, rfl, hbw, hpl, hb⟩
        have hpb := PlainB.of hpl
        have o1 := BlockIs.of hpb.h6 1 _ rfl
        have f1 := thaw hpb.h6 1
        have hlt6 : b + 6 < w5.heap.size := hpb.lt
        have hps := hpb.set6 1
        have hBB : w.heap.size ≤ b + 6 := by have := HB4.out.size; omega
        have hbs := bput (bthen HB4.out hb) (set_grown w5 (b + 6) 1 (.int .i64 1)) hBB (Nat.le_refl _)
        obtain ⟨ws, hws⟩ : ∃ ws, ws = w5.setCell ⟨b + 6, 1, none⟩ (.int .i64 1) := ⟨_, rfl⟩
        rw [← hws] at hps hbs
        obtain ⟨w6, hw_w6⟩ : ∃ w6, w6 = ws.alloc (.cells #[.int .i64 10, .int .i64 2, plainPs b, plainWs b, plainOs b] 26) := ⟨_, rfl⟩
        obtain ⟨ga, hg_ga⟩ : ∃ ga, ga = ws.heap.size := ⟨_, rfl⟩
        have hb_w6 : Below ws.heap.size ws w6 := by rw [hw_w6]; exact balloc _ _
        have hk_ga : w6.heap[ga]? = some (.cells #[.int .i64 10, .int .i64 2, plainPs b, plainWs b, plainOs b] 26 (0, 0)) := by rw [hw_w6, hg_ga]; exact blk_new _ _
        have hs_w6 : w6.heap.size = ws.heap.size + 1 := by rw [hw_w6]; simp
        have HPS := Lib.hid (hps.keep hb_w6)
        have HB6 := Lib.hid (bthen hbs hb_w6)
        have HWS := Lib.hid (show ws.heap.size = w5.heap.size by rw [hws]; simp)
        clear hb hpl hpb hps hbs hb_w6 hs_w6 hk_ga hbw hBB
        go_wp2_with fail
        rw [← hws]
        (try rw [← HWS.out])
        rw [← hw_w6]
        clear hws hw_w6 hg_ga hlt6 o1 f1
        refine (ports_none ⟨10, 2, [⟨1, [plT1], [plI1, plI2]⟩, ⟨0, [plT3], []⟩], [plW1, plW2], [⟨1, 1, 1, 2⟩]⟩ _ _ ⟨_, _, _, rfl, HPS.out.is 10 2⟩ (by decide)).mono ?_
        rintro e w7 ⟨rfl, hb⟩
        have HB7 := Lib.hid (bthen HB6.out hb)
        clear hb
        go_wp2_with (first | (go_at_call 11; refine (num_any _ _).mono ?_; rintro e w' ⟨rfl, hw⟩; subst w') | fail)
        go_ret
        exact ⟨rfl, HB7.out⟩
    · by_cases hpo : port = 0
      · have b1 : (part != 0) = true := by simp [hpa.1]
        have b2 : (part != 1) = true := by simp [hpa.2]
        have b3 : (port != 0) = false := by simpa using hpo
        have e1 : fa = 1701 := by
          rw [hfa]; unfold foA
          simp only [decide_eq_true_eq] at x1 x2
          rw [if_neg (by omega), if_pos (by omega)]
        have e2 : fb = 1701 := by
          rw [hfb]; unfold foB
          rw [if_neg (by omega), if_pos (by omega)]
        subst e1
        subst e2
        clear hfa hfb hpa hpo
        go_wp2_with fail
        refine (plainAt17_any _).mono ?_
        rintro e w5 ⟨b, rfl, hbw, hpl, hb⟩
        have hpb := PlainB.of hpl
        have o1 := BlockIs.of hpb.h6 1 _ rfl
        have f1 := thaw hpb.h6 1
        have hlt6 : b + 6 < w5.heap.size := hpb.lt
        have hps := hpb.set6 1
        have hBB : w.heap.size ≤ b + 6 := by have := HB4.out.size; omega
        have hbs := bput (bthen HB4.out hb) (set_grown w5 (b + 6) 1 (.int .i64 1)) hBB (Nat.le_refl _)
        obtain ⟨ws, hws⟩ : ∃ ws, ws = w5.setCell ⟨b + 6, 1, none⟩ (.int .i64 1) := ⟨_, rfl⟩
        rw [← hws] at hps hbs
        obtain ⟨w6, hw_w6⟩ : ∃ w6, w6 = ws.alloc (.cells #[.int .i64 10, .int .i64 2, plainPs b, plainWs b, plainOs b] 26) := ⟨_, rfl⟩
        obtain ⟨ga, hg_ga⟩ : ∃ ga, ga = ws.heap.size := ⟨_, rfl⟩
        have hb_w6 : Below ws.heap.size ws w6 := by rw [hw_w6]; exact balloc _ _
        have hk_ga : w6.heap[ga]? = some (.cells #[.int .i64 10, .int .i64 2, plainPs b, plainWs b, plainOs b] 26 (0, 0)) := by rw [hw_w6, hg_ga]; exact blk_new _ _
        have hs_w6 : w6.heap.size = ws.heap.size + 1 := by rw [hw_w6]; simp
        have HPS := Lib.hid (hps.keep hb_w6)
        have HB6 := Lib.hid (bthen hbs hb_w6)
        have HWS := Lib.hid (show ws.heap.size = w5.heap.size by rw [hws]; simp)
        clear hb hpl hpb hps hbs hb_w6 hs_w6 hk_ga hbw hBB
        go_wp2_with fail
        rw [← hws]
        (try rw [← HWS.out])
        rw [← hw_w6]
        clear hws hw_w6 hg_ga hlt6 o1 f1
        refine (ports_none ⟨10, 2, [⟨1, [plT1], [plI1, plI2]⟩, ⟨0, [plT3], []⟩], [plW1, plW2], [⟨1, 1, 1, 2⟩]⟩ _ _ ⟨_, _, _, rfl, HPS.out.is 10 2⟩ (by decide)).mono ?_
        rintro e w7 ⟨rfl, hb⟩
        have HB7 := Lib.hid (bthen HB6.out hb)
        clear hb
        go_wp2_with (first | (go_at_call 11; refine (num_any _ _).mono ?_; rintro e w' ⟨rfl, hw⟩; subst w') | fail)
        go_ret
        exact ⟨rfl, HB7.out⟩
      · have b1 : (part != 0) = true := by simp [hpa.1]
        have b2 : (part != 1) = true := by simp [hpa.2]
        have b3 : (port != 0) = true := by simpa using hpo
        have e1 : fa = 1700 := by
          rw [hfa]; unfold foA
          simp only [decide_eq_true_eq] at x1 x2
          rw [if_pos (by omega)]
        have e2 : fb = 1700 := by
          rw [hfb]; unfold foB
          rw [if_pos hpo]
        subst e1
        subst e2
        clear hfa hfb hpa hpo
        go_wp2_with fail
        refine (plainAt17_any _).mono ?_
        rintro e w5 ⟨b, rfl, hbw, hpl, hb⟩
        have hpb := PlainB.of hpl
        have o1 := BlockIs.of hpb.h6 1 _ rfl
        have f1 := thaw hpb.h6 1
        have hlt6 : b + 6 < w5.heap.size := hpb.lt
        have hps := hpb.set6 1
        have hBB : w.heap.size ≤ b + 6 := by have := HB4.out.size; omega
        have hbs := bput (bthen HB4.out hb) (set_grown w5 (b + 6) 1 (.int .i64 1)) hBB (Nat.le_refl _)
        obtain ⟨ws, hws⟩ : ∃ ws, ws = w5.setCell ⟨b + 6, 1, none⟩ (.int .i64 1) := ⟨_, rfl⟩
        rw [← hws] at hps hbs
        obtain ⟨w6, hw_w6⟩ : ∃ w6, w6 = ws.alloc (.cells #[.int .i64 10, .int .i64 2, plainPs b, plainWs b, plainOs b] 26) := ⟨_, rfl⟩
        obtain ⟨ga, hg_ga⟩ : ∃ ga, ga = ws.heap.size := ⟨_, rfl⟩
        have hb_w6 : Below ws.heap.size ws w6 := by rw [hw_w6]; exact balloc _ _
        have hk_ga : w6.heap[ga]? = some (.cells #[.int .i64 10, .int .i64 2, plainPs b, plainWs b, plainOs b] 26 (0, 0)) := by rw [hw_w6, hg_ga]; exact blk_new _ _
        have hs_w6 : w6.heap.size = ws.heap.size + 1 := by rw [hw_w6]; simp
        have HPS := Lib.hid (hps.keep hb_w6)
        have HB6 := Lib.hid (bthen hbs hb_w6)
        have HWS := Lib.hid (show ws.heap.size = w5.heap.size by rw [hws]; simp)
        clear hb hpl hpb hps hbs hb_w6 hs_w6 hk_ga hbw hBB
        go_wp2_with fail
        rw [← hws]
        (try rw [← HWS.out])
        rw [← hw_w6]
        clear hws hw_w6 hg_ga hlt6 o1 f1
        refine (ports_none ⟨10, 2, [⟨1, [plT1], [plI1, plI2]⟩, ⟨0, [plT3], []⟩], [plW1, plW2], [⟨1, 1, 1, 2⟩]⟩ _ _ ⟨_, _, _, rfl, HPS.out.is 10 2⟩ (by decide)).mono ?_
        rintro e w7 ⟨rfl, hb⟩
        have HB7 := Lib.hid (bthen HB6.out hb)
        clear hb
        go_wp2_with (first | (go_at_call 11; refine (num_any _ _).mono ?_; rintro e w' ⟨rfl, hw⟩; subst w') | fail)
        go_ret
        exact ⟨rfl, HB7.out⟩
  · rcases (show part = 0 ∨ part = 1 ∨ part ≠ 0 ∧ part ≠ 1 by omega) with hpa | hpa | hpa
    · by_cases hpo : port = 0
      · have b1 : (part != 0) = false := by rw [hpa]; rfl
        have b2 : (part != 1) = true := by rw [hpa]; rfl
        have b3 : (port != 0) = false := by simpa using hpo
        have e1 : fa = 1700 := by
          rw [hfa]; unfold foA
          simp only [decide_eq_false_iff_not] at x1
          rw [if_pos (by omega)]
        have e2 : fb = 1701 := by
          rw [hfb]; unfold foB
          rw [if_neg (by omega), if_pos (by omega)]
        subst e1
        subst e2
        clear hfa hfb hpa hpo
        go_wp2_with fail
        refine (plainAt17_any _).mono ?_
        rintro e w5 ⟨b, rfl, hbw, hpl, hb⟩
        have hpb := PlainB.of hpl
        have o1 := BlockIs.of hpb.h6 1 _ rfl
        have f1 := thaw hpb.h6 1
        have hlt6 : b + 6 < w5.heap.size := hpb.lt
        have hps := hpb.set6 1
        have hBB : w.heap.size ≤ b + 6 := by have := HB4.out.size; omega
        have hbs := bput (bthen HB4.out hb) (set_grown w5 (b + 6) 1 (.int .i64 1)) hBB (Nat.le_refl _)
        obtain ⟨ws, hws⟩ : ∃ ws, ws = w5.setCell ⟨b + 6, 1, none⟩ (.int .i64 1) := ⟨_, rfl⟩
        rw [← hws] at hps hbs
        obtain ⟨w6, hw_w6⟩ : ∃ w6, w6 = ws.alloc (.cells #[.int .i64 10, .int .i64 2, plainPs b, plainWs b, plainOs b] 26) := ⟨_, rfl⟩
        obtain ⟨ga, hg_ga⟩ : ∃ ga, ga = ws.heap.size := ⟨_, rfl⟩
        have hb_w6 : Below ws.heap.size ws w6 := by rw [hw_w6]; exact balloc _ _
        have hk_ga : w6.heap[ga]? = some (.cells #[.int .i64 10, .int .i64 2, plainPs b, plainWs b, plainOs b] 26 (0, 0)) := by rw [hw_w6, hg_ga]; exact blk_new _ _
        have hs_w6 : w6.heap.size = ws.heap.size + 1 := by rw [hw_w6]; simp
        have HPS := Lib.hid (hps.keep hb_w6)
        have HB6 := Lib.hid (bthen hbs hb_w6)
        have HWS := Lib.hid (show ws.heap.size = w5.heap.size by rw [hws]; simp)
        clear hb hpl hpb hps hbs hb_w6 hs_w6 hk_ga hbw hBB
        go_wp2_with fail
        rw [← hws]
        (try rw [← HWS.out])
        rw [← hw_w6]
        clear hws hw_w6 hg_ga hlt6 o1 f1
        refine (ports_none ⟨10, 2, [⟨1, [plT1], [plI1, plI2]⟩, ⟨0, [plT3], []⟩], [plW1, plW2], [⟨1, 1, 1, 2⟩]⟩ _ _ ⟨_, _, _, rfl, HPS.out.is 10 2⟩ (by decide)).mono ?_
        rintro e w7 ⟨rfl, hb⟩
        have HB7 := Lib.hid (bthen HB6.out hb)
        clear hb
        go_wp2_with (first | (go_at_call 11; refine (num_any _ _).mono ?_; rintro e w' ⟨rfl, hw⟩; subst w') | fail)
        go_ret
        exact ⟨rfl, HB7.out⟩
      · have b1 : (part != 0) = false := by rw [hpa]; rfl
        have b2 : (part != 1) = true := by rw [hpa]; rfl
        have b3 : (port != 0) = true := by simpa using hpo
        have e1 : fa = 1700 := by
          rw [hfa]; unfold foA
          simp only [decide_eq_false_iff_not] at x1
          rw [if_pos (by omega)]
        have e2 : fb = 1700 := by
          rw [hfb]; unfold foB
          rw [if_pos hpo]
        subst e1
        subst e2
        clear hfa hfb hpa hpo
        go_wp2_with fail
        refine (plainAt17_any _).mono ?_
        rintro e w5 ⟨b, rfl, hbw, hpl, hb⟩
        have hpb := PlainB.of hpl
        have o1 := BlockIs.of hpb.h6 1 _ rfl
        have f1 := thaw hpb.h6 1
        have hlt6 : b + 6 < w5.heap.size := hpb.lt
        have hps := hpb.set6 1
        have hBB : w.heap.size ≤ b + 6 := by have := HB4.out.size; omega
        have hbs := bput (bthen HB4.out hb) (set_grown w5 (b + 6) 1 (.int .i64 1)) hBB (Nat.le_refl _)
        obtain ⟨ws, hws⟩ : ∃ ws, ws = w5.setCell ⟨b + 6, 1, none⟩ (.int .i64 1) := ⟨_, rfl⟩
        rw [← hws] at hps hbs
        obtain ⟨w6, hw_w6⟩ : ∃ w6, w6 = ws.alloc (.cells #[.int .i64 10, .int .i64 2, plainPs b, plainWs b, plainOs b] 26) := ⟨_, rfl⟩
        obtain ⟨ga, hg_ga⟩ : ∃ ga, ga = ws.heap.size := ⟨_, rfl⟩
        have hb_w6 : Below ws.heap.size ws w6 := by rw [hw_w6]; exact balloc _ _
        have hk_ga : w6.heap[ga]? = some (.cells #[.int .i64 10, .int .i64 2, plainPs b, plainWs b, plainOs b] 26 (0, 0)) := by rw [hw_w6, hg_ga]; exact blk_new _ _
        have hs_w6 : w6.heap.size = ws.heap.size + 1 := by rw [hw_w6]; simp
        have HPS := Lib.hid (hps.keep hb_w6)
        have HB6 := Lib.hid (bthen hbs hb_w6)
        have HWS := Lib.hid (show ws.heap.size = w5.heap.size by rw [hws]; simp)
        clear hb hpl hpb hps hbs hb_w6 hs_w6 hk_ga hbw hBB
        go_wp2_with fail
        rw [← hws]
        (try rw [← HWS.out])
        rw [← hw_w6]
        clear hws hw_w6 hg_ga hlt6 o1 f1
        refine (ports_none ⟨10, 2, [⟨1, [plT1], [plI1, plI2]⟩, ⟨0, [plT3], []⟩], [plW1, plW2], [⟨1, 1, 1, 2⟩]⟩ _ _ ⟨_, _, _, rfl, HPS.out.is 10 2⟩ (by decide)).mono ?_
        rintro e w7 ⟨rfl, hb⟩
        have HB7 := Lib.hid (bthen HB6.out hb)
        clear hb
        go_wp2_with (first | (go_at_call 11; refine (num_any _ _).mono ?_; rintro e w' ⟨rfl, hw⟩; subst w') | fail)
        go_ret
        exact ⟨rfl, HB7.out⟩
    · by_cases hpo : port = 0
      · have b1 : (part != 0) = true := by rw [hpa]; rfl
        have b2 : (part != 1) = false := by rw [hpa]; rfl
        have b3 : (port != 0) = false := by simpa using hpo
        have e1 : fa = 1700 := by
          rw [hfa]; unfold foA
          simp only [decide_eq_false_iff_not] at x1
          rw [if_pos (by omega)]
        have e2 : fb = 0 := by
          rw [hfb]; unfold foB
          rw [if_neg (by omega), if_neg (by omega)]
        subst e1
        subst e2
        clear hfa hfb hpa hpo
        go_wp2_with fail
        refine (plainAt17_any _).mono ?_
        rintro e w5 ⟨b, rfl, hbw, hpl, hb⟩
        have hpb := PlainB.of hpl
        have o1 := BlockIs.of hpb.h6 1 _ rfl
        have f1 := thaw hpb.h6 1
        have hlt6 : b + 6 < w5.heap.size := hpb.lt
        have hps := hpb.set6 1
        have hBB : w.heap.size ≤ b + 6 := by have := HB4.out.size; omega
        have hbs := bput (bthen HB4.out hb) (set_grown w5 (b + 6) 1 (.int .i64 1)) hBB (Nat.le_refl _)
        obtain ⟨ws, hws⟩ : ∃ ws, ws = w5.setCell ⟨b + 6, 1, none⟩ (.int .i64 1) := ⟨_, rfl⟩
        rw [← hws] at hps hbs
        obtain ⟨w6, hw_w6⟩ : ∃ w6, w6 = ws.alloc (.cells #[.int .i64 10, .int .i64 2, plainPs b, plainWs b, plainOs b] 26) := ⟨_, rfl⟩
        obtain ⟨ga, hg_ga⟩ : ∃ ga, ga = ws.heap.size := ⟨_, rfl⟩
        have hb_w6 : Below ws.heap.size ws w6 := by rw [hw_w6]; exact balloc _ _
        have hk_ga : w6.heap[ga]? = some (.cells #[.int .i64 10, .int .i64 2, plainPs b, plainWs b, plainOs b] 26 (0, 0)) := by rw [hw_w6, hg_ga]; exact blk_new _ _
        have hs_w6 : w6.heap.size = ws.heap.size + 1 := by rw [hw_w6]; simp
        have HPS := Lib.hid (hps.keep hb_w6)
        have HB6 := Lib.hid (bthen hbs hb_w6)
        have HWS := Lib.hid (show ws.heap.size = w5.heap.size by rw [hws]; simp)
        clear hb hpl hpb hps hbs hb_w6 hs_w6 hk_ga hbw hBB
        go_wp2_with fail
        rw [← hws]
        (try rw [← HWS.out])
        rw [← hw_w6]
        clear hws hw_w6 hg_ga hlt6 o1 f1
        refine (ports_none ⟨10, 2, [⟨1, [plT1], [plI1, plI2]⟩, ⟨0, [plT3], []⟩], [plW1, plW2], [⟨1, 1, 1, 2⟩]⟩ _ _ ⟨_, _, _, rfl, HPS.out.is 10 2⟩ (by decide)).mono ?_
        rintro e w7 ⟨rfl, hb⟩
        have HB7 := Lib.hid (bthen HB6.out hb)
        clear hb
        go_wp2_with (first | (go_at_call 11; refine (num_any _ _).mono ?_; rintro e w' ⟨rfl, hw⟩; subst w') | fail)
        go_ret
        exact ⟨rfl, HB7.out⟩
      · have b1 : (part != 0) = true := by rw [hpa]; rfl
        have b2 : (part != 1) = false := by rw [hpa]; rfl
        have b3 : (port != 0) = true := by simpa using hpo
        have e1 : fa = 1700 := by
          rw [hfa]; unfold foA
          simp only [decide_eq_false_iff_not] at x1
          rw [if_pos (by omega)]
        have e2 : fb = 1700 := by
          rw [hfb]; unfold foB
          rw [if_pos hpo]
        subst e1
        subst e2
        clear hfa hfb hpa hpo
        go_wp2_with fail
        refine (plainAt17_any _).mono ?_
        rintro e w5 ⟨b, rfl, hbw, hpl, hb⟩
        have hpb := PlainB.of hpl
        have o1 := BlockIs.of hpb.h6 1 _ rfl
        have f1 := thaw hpb.h6 1
        have hlt6 : b + 6 < w5.heap.size := hpb.lt
        have hps := hpb.set6 1
        have hBB : w.heap.size ≤ b + 6 := by have := HB4.out.size; omega
        have hbs := bput (bthen HB4.out hb) (set_grown w5 (b + 6) 1 (.int .i64 1)) hBB (Nat.le_refl _)
        obtain ⟨ws, hws⟩ : ∃ ws, ws = w5.setCell ⟨b + 6, 1, none⟩ (.int .i64 1) := ⟨_, rfl⟩
        rw [← hws] at hps hbs
        obtain ⟨w6, hw_w6⟩ : ∃ w6, w6 = ws.alloc (.cells #[.int .i64 10, .int .i64 2, plainPs b, plainWs b, plainOs b] 26) := ⟨_, rfl⟩
        obtain ⟨ga, hg_ga⟩ : ∃ ga, ga = ws.heap.size := ⟨_, rfl⟩
        have hb_w6 : Below ws.heap.size ws w6 := by rw [hw_w6]; exact balloc _ _
        have hk_ga : w6.heap[ga]? = some (.cells #[.int .i64 10, .int .i64 2, plainPs b, plainWs b, plainOs b] 26 (0, 0)) := by rw [hw_w6, hg_ga]; exact blk_new _ _
        have hs_w6 : w6.heap.size = ws.heap.size + 1 := by rw [hw_w6]; simp
        have HPS := Lib.hid (hps.keep hb_w6)
        have HB6 := Lib.hid (bthen hbs hb_w6)
        have HWS := Lib.hid (show ws.heap.size = w5.heap.size by rw [hws]; simp)
        clear hb hpl hpb hps hbs hb_w6 hs_w6 hk_ga hbw hBB
        go_wp2_with fail
        rw [← hws]
        (try rw [← HWS.out])
        rw [← hw_w6]
        clear hws hw_w6 hg_ga hlt6 o1 f1
        refine (ports_none ⟨10, 2, [⟨1, [plT1], [plI1, plI2]⟩, ⟨0, [plT3], []⟩], [plW1, plW2], [⟨1, 1, 1, 2⟩]⟩ _ _ ⟨_, _, _, rfl, HPS.out.is 10 2⟩ (by decide)).mono ?_
        rintro e w7 ⟨rfl, hb⟩
        have HB7 := Lib.hid (bthen HB6.out hb)
        clear hb
        go_wp2_with (first | (go_at_call 11; refine (num_any _ _).mono ?_; rintro e w' ⟨rfl, hw⟩; subst w') | fail)
        go_ret
        exact ⟨rfl, HB7.out⟩
    · by_cases hpo : port = 0
      · have b1 : (part != 0) = true := by simp [hpa.1]
        have b2 : (part != 1) = true := by simp [hpa.2]
        have b3 : (port != 0) = false := by simpa using hpo
        have e1 : fa = 1700 := by
          rw [hfa]; unfold foA
          simp only [decide_eq_false_iff_not] at x1
          rw [if_pos (by omega)]
        have e2 : fb = 1701 := by
          rw [hfb]; unfold foB
          rw [if_neg (by omega), if_pos (by omega)]
        subst e1
        subst e2
        clear hfa hfb hpa hpo
        go_wp2_with fail
        refine (plainAt17_any _).mono ?_
        rintro e w5 ⟨b, rfl, hbw, hpl, hb⟩
        have hpb := PlainB.of hpl
        have o1 := BlockIs.of hpb.h6 1 _ rfl
        have f1 := thaw hpb.h6 1
        have hlt6 : b + 6 < w5.heap.size := hpb.lt
        have hps := hpb.set6 1
        have hBB : w.heap.size ≤ b + 6 := by have := HB4.out.size; omega
        have hbs := bput (bthen HB4.out hb) (set_grown w5 (b + 6) 1 (.int .i64 1)) hBB (Nat.le_refl _)
        obtain ⟨ws, hws⟩ : ∃ ws, ws = w5.setCell ⟨b + 6, 1, none⟩ (.int .i64 1) := ⟨_, rfl⟩
        rw [← hws] at hps hbs
        obtain ⟨w6, hw_w6⟩ : ∃ w6, w6 = ws.alloc (.cells #[.int .i64 10, .int .i64 2, plainPs b, plainWs b, plainOs b] 26) := ⟨_, rfl⟩
        obtain ⟨ga, hg_ga⟩ : ∃ ga, ga = ws.heap.size := ⟨_, rfl⟩
        have hb_w6 : Below ws.heap.size ws w6 := by rw [hw_w6]; exact balloc _ _
        have hk_ga : w6.heap[ga]? = some (.cells #[.int .i64 10, .int .i64 2, plainPs b, plainWs b, plainOs b] 26 (0, 0)) := by rw [hw_w6, hg_ga]; exact blk_new _ _
        have hs_w6 : w6.heap.size = ws.heap.size + 1 := by rw [hw_w6]; simp
        have HPS := Lib.hid (hps.keep hb_w6)
        have HB6 := Lib.hid (bthen hbs hb_w6)
        have HWS := Lib.hid (show ws.heap.size = w5.heap.size by rw [hws]; simp)
        clear hb hpl hpb hps hbs hb_w6 hs_w6 hk_ga hbw hBB
        go_wp2_with fail
        rw [← hws]
        (try rw [← HWS.out])
        rw [← hw_w6]
        clear hws hw_w6 hg_ga hlt6 o1 f1
        refine (ports_none ⟨10, 2, [⟨1, [plT1], [plI1, plI2]⟩, ⟨0, [plT3], []⟩], [plW1, plW2], [⟨1, 1, 1, 2⟩]⟩ _ _ ⟨_, _, _, rfl, HPS.out.is 10 2⟩ (by decide)).mono ?_
        rintro e w7 ⟨rfl, hb⟩
        have HB7 := Lib.hid (bthen HB6.out hb)
        clear hb
        go_wp2_with (first | (go_at_call 11; refine (num_any _ _).mono ?_; rintro e w' ⟨rfl, hw⟩; subst w') | fail)
        go_ret
        exact ⟨rfl, HB7.out⟩
      · have b1 : (part != 0) = true := by simp [hpa.1]
        have b2 : (part != 1) = true := by simp [hpa.2]
        have b3 : (port != 0) = true := by simpa using hpo
        have e1 : fa = 1700 := by
          rw [hfa]; unfold foA
          simp only [decide_eq_false_iff_not] at x1
          rw [if_pos (by omega)]
        have e2 : fb = 1700 := by
          rw [hfb]; unfold foB
          rw [if_pos hpo]
        subst e1
        subst e2
        clear hfa hfb hpa hpo
        go_wp2_with fail
        refine (plainAt17_any _).mono ?_
        rintro e w5 ⟨b, rfl, hbw, hpl, hb⟩
        have hpb := PlainB.of hpl
        have o1 := BlockIs.of hpb.h6 1 _ rfl
        have f1 := thaw hpb.h6 1
        have hlt6 : b + 6 < w5.heap.size := hpb.lt
        have hps := hpb.set6 1
        have hBB : w.heap.size ≤ b + 6 := by have := HB4.out.size; omega
        have hbs := bput (bthen HB4.out hb) (set_grown w5 (b + 6) 1 (.int .i64 1)) hBB (Nat.le_refl _)
        obtain ⟨ws, hws⟩ : ∃ ws, ws = w5.setCell ⟨b + 6, 1, none⟩ (.int .i64 1) := ⟨_, rfl⟩
        rw [← hws] at hps hbs
        obtain ⟨w6, hw_w6⟩ : ∃ w6, w6 = ws.alloc (.cells #[.int .i64 10, .int .i64 2, plainPs b, plainWs b, plainOs b] 26) := ⟨_, rfl⟩
        obtain ⟨ga, hg_ga⟩ : ∃ ga, ga = ws.heap.size := ⟨_, rfl⟩
        have hb_w6 : Below ws.heap.size ws w6 := by rw [hw_w6]; exact balloc _ _
        have hk_ga : w6.heap[ga]? = some (.cells #[.int .i64 10, .int .i64 2, plainPs b, plainWs b, plainOs b] 26 (0, 0)) := by rw [hw_w6, hg_ga]; exact blk_new _ _
        have hs_w6 : w6.heap.size = ws.heap.size + 1 := by rw [hw_w6]; simp
        have HPS := Lib.hid (hps.keep hb_w6)
        have HB6 := Lib.hid (bthen hbs hb_w6)
        have HWS := Lib.hid (show ws.heap.size = w5.heap.size by rw [hws]; simp)
        clear hb hpl hpb hps hbs hb_w6 hs_w6 hk_ga hbw hBB
        go_wp2_with fail
        rw [← hws]
        (try rw [← HWS.out])
        rw [← hw_w6]
        clear hws hw_w6 hg_ga hlt6 o1 f1
        refine (ports_none ⟨10, 2, [⟨1, [plT1], [plI1, plI2]⟩, ⟨0, [plT3], []⟩], [plW1, plW2], [⟨1, 1, 1, 2⟩]⟩ _ _ ⟨_, _, _, rfl, HPS.out.is 10 2⟩ (by decide)).mono ?_
        rintro e w7 ⟨rfl, hb⟩
        have HB7 := Lib.hid (bthen HB6.out hb)
        clear hb
        go_wp2_with (first | (go_at_call 11; refine (num_any _ _).mono ?_; rintro e w' ⟨rfl, hw⟩; subst w') | fail)
        go_ret
        exact ⟨rfl, HB7.out⟩
  · rcases (show part = 0 ∨ part = 1 ∨ part ≠ 0 ∧ part ≠ 1 by omega) with hpa | hpa | hpa
    · by_cases hpo : port = 0
      · have b1 : (part != 0) = false := by rw [hpa]; rfl
        have b2 : (part != 1) = true := by rw [hpa]; rfl
        have b3 : (port != 0) = false := by simpa using hpo
        have e1 : fa = 1700 := by
          rw [hfa]; unfold foA
          simp only [decide_eq_true_eq, decide_eq_false_iff_not] at x1 x2
          rw [if_pos (by omega)]
        have e2 : fb = 1701 := by
          rw [hfb]; unfold foB
          rw [if_neg (by omega), if_pos (by omega)]
        subst e1
        subst e2
        clear hfa hfb hpa hpo
        go_wp2_with fail
        refine (plainAt17_any _).mono ?_
        rintro e w5 ⟨b, rfl, hbw, hpl, hb⟩
        have hpb := PlainB.of hpl
        have o1 := BlockIs.of hpb.h6 1 _ rfl
        have f1 := thaw hpb.h6 1
        have hlt6 : b + 6 < w5.heap.size := hpb.lt
        have hps := hpb.set6 1
        have hBB : w.heap.size ≤ b + 6 := by have := HB4.out.size; omega
        have hbs := bput (bthen HB4.out hb) (set_grown w5 (b + 6) 1 (.int .i64 1)) hBB (Nat.le_refl _)
        obtain ⟨ws, hws⟩ : ∃ ws, ws = w5.setCell ⟨b + 6, 1, none⟩ (.int .i64 1) := ⟨_, rfl⟩
        rw [← hws] at hps hbs
        obtain ⟨w6, hw_w6⟩ : ∃ w6, w6 = ws.alloc (.cells #[.int .i64 10, .int .i64 2, plainPs b, plainWs b, plainOs b] 26) := ⟨_, rfl⟩
        obtain ⟨ga, hg_ga⟩ : ∃ ga, ga = ws.heap.size := ⟨_, rfl⟩
        have hb_w6 : Below ws.heap.size ws w6 := by rw [hw_w6]; exact balloc _ _
        have hk_ga : w6.heap[ga]? = some (.cells #[.int .i64 10, .int .i64 2, plainPs b, plainWs b, plainOs b] 26 (0, 0)) := by rw [hw_w6, hg_ga]; exact blk_new _ _
        have hs_w6 : w6.heap.size = ws.heap.size + 1 := by rw [hw_w6]; simp
        have HPS := Lib.hid (hps.keep hb_w6)
        have HB6 := Lib.hid (bthen hbs hb_w6)
        have HWS := Lib.hid (show ws.heap.size = w5.heap.size by rw [hws]; simp)
        clear hb hpl hpb hps hbs hb_w6 hs_w6 hk_ga hbw hBB
        go_wp2_with fail
        rw [← hws]
        (try rw [← HWS.out])
        rw [← hw_w6]
        clear hws hw_w6 hg_ga hlt6 o1 f1
        refine (ports_none ⟨10, 2, [⟨1, [plT1], [plI1, plI2]⟩, ⟨0, [plT3], []⟩], [plW1, plW2], [⟨1, 1, 1, 2⟩]⟩ _ _ ⟨_, _, _, rfl, HPS.out.is 10 2⟩ (by decide)).mono ?_
        rintro e w7 ⟨rfl, hb⟩
        have HB7 := Lib.hid (bthen HB6.out hb)
        clear hb
        go_wp2_with (first | (go_at_call 11; refine (num_any _ _).mono ?_; rintro e w' ⟨rfl, hw⟩; subst w') | fail)
        go_ret
        exact ⟨rfl, HB7.out⟩
      · have b1 : (part != 0) = false := by rw [hpa]; rfl
        have b2 : (part != 1) = true := by rw [hpa]; rfl
        have b3 : (port != 0) = true := by simpa using hpo
        have e1 : fa = 1700 := by
          rw [hfa]; unfold foA
          simp only [decide_eq_true_eq, decide_eq_false_iff_not] at x1 x2
          rw [if_pos (by omega)]
        have e2 : fb = 1700 := by
          rw [hfb]; unfold foB
          rw [if_pos hpo]
        subst e1
        subst e2
        clear hfa hfb hpa hpo
        go_wp2_with fail
        refine (plainAt17_any _).mono ?_
        rintro e w5 ⟨b, rfl, hbw, hpl, hb⟩
        have hpb := PlainB.of hpl
        have o1 := BlockIs.of hpb.h6 1 _ rfl
        have f1 := thaw hpb.h6 1
        have hlt6 : b + 6 < w5.heap.size := hpb.lt
        have hps := hpb.set6 1
        have hBB : w.heap.size ≤ b + 6 := by have := HB4.out.size; omega
        have hbs := bput (bthen HB4.out hb) (set_grown w5 (b + 6) 1 (.int .i64 1)) hBB (Nat.le_refl _)
        obtain ⟨ws, hws⟩ : ∃ ws, ws = w5.setCell ⟨b + 6, 1, none⟩ (.int .i64 1) := ⟨_, rfl⟩
        rw [← hws] at hps hbs
        obtain ⟨w6, hw_w6⟩ : ∃ w6, w6 = ws.alloc (.cells #[.int .i64 10, .int .i64 2, plainPs b, plainWs b, plainOs b] 26) := ⟨_, rfl⟩
        obtain ⟨ga, hg_ga⟩ : ∃ ga, ga = ws.heap.size := ⟨_, rfl⟩
        have hb_w6 : Below ws.heap.size ws w6 := by rw [hw_w6]; exact balloc _ _
        have hk_ga : w6.heap[ga]? = some (.cells #[.int .i64 10, .int .i64 2, plainPs b, plainWs b, plainOs b] 26 (0, 0)) := by rw [hw_w6, hg_ga]; exact blk_new _ _
        have hs_w6 : w6.heap.size = ws.heap.size + 1 := by rw [hw_w6]; simp
        have HPS := Lib.hid (hps.keep hb_w6)
        have HB6 := Lib.hid (bthen hbs hb_w6)
        have HWS := Lib.hid (show ws.heap.size = w5.heap.size by rw [hws]; simp)
        clear hb hpl hpb hps hbs hb_w6 hs_w6 hk_ga hbw hBB
        go_wp2_with fail
        rw [← hws]
        (try rw [← HWS.out])
        rw [← hw_w6]
        clear hws hw_w6 hg_ga hlt6 o1 f1
        refine (ports_none ⟨10, 2, [⟨1, [plT1], [plI1, plI2]⟩, ⟨0, [plT3], []⟩], [plW1, plW2], [⟨1, 1, 1, 2⟩]⟩ _ _ ⟨_, _, _, rfl, HPS.out.is 10 2⟩ (by decide)).mono ?_
        rintro e w7 ⟨rfl, hb⟩
        have HB7 := Lib.hid (bthen HB6.out hb)
        clear hb
        go_wp2_with (first | (go_at_call 11; refine (num_any _ _).mono ?_; rintro e w' ⟨rfl, hw⟩; subst w') | fail)
        go_ret
        exact ⟨rfl, HB7.out⟩
    · by_cases hpo : port = 0
      · have b1 : (part != 0) = true := by rw [hpa]; rfl
        have b2 : (part != 1) = false := by rw [hpa]; rfl
        have b3 : (port != 0) = false := by simpa using hpo
        have e1 : fa = 1700 := by
          rw [hfa]; unfold foA
          simp only [decide_eq_true_eq, decide_eq_false_iff_not] at x1 x2
          rw [if_pos (by omega)]
        have e2 : fb = 0 := by
          rw [hfb]; unfold foB
          rw [if_neg (by omega), if_neg (by omega)]
        subst e1
        subst e2
        clear hfa hfb hpa hpo
        go_wp2_with fail
        refine (plainAt17_any _).mono ?_
        rintro e w5 ⟨b, rfl, hbw, hpl, hb⟩
        have hpb := PlainB.of hpl
        have o1 := BlockIs.of hpb.h6 1 _ rfl
        have f1 := thaw hpb.h6 1
        have hlt6 : b + 6 < w5.heap.size := hpb.lt
        have hps := hpb.set6 1
        have hBB : w.heap.size ≤ b + 6 := by have := HB4.out.size; omega
        have hbs := bput (bthen HB4.out hb) (set_grown w5 (b + 6) 1 (.int .i64 1)) hBB (Nat.le_refl _)
        obtain ⟨ws, hws⟩ : ∃ ws, ws = w5.setCell ⟨b + 6, 1, none⟩ (.int .i64 1) := ⟨_, rfl⟩
        rw [← hws] at hps hbs
        obtain ⟨w6, hw_w6⟩ : ∃ w6, w6 = ws.alloc (.cells #[.int .i64 10, .int .i64 2, plainPs b, plainWs b, plainOs b] 26) := ⟨_, rfl⟩
        obtain ⟨ga, hg_ga⟩ : ∃ ga, ga = ws.heap.size := ⟨_, rfl⟩
        have hb_w6 : Below ws.heap.size ws w6 := by rw [hw_w6]; exact balloc _ _
        have hk_ga : w6.heap[ga]? = some (.cells #[.int .i64 10, .int .i64 2, plainPs b, plainWs b, plainOs b] 26 (0, 0)) := by rw [hw_w6, hg_ga]; exact blk_new _ _
        have hs_w6 : w6.heap.size = ws.heap.size + 1 := by rw [hw_w6]; simp
        have HPS := Lib.hid (hps.keep hb_w6)
        have HB6 := Lib.hid (bthen hbs hb_w6)
        have HWS := Lib.hid (show ws.heap.size = w5.heap.size by rw [hws]; simp)
        clear hb hpl hpb hps hbs hb_w6 hs_w6 hk_ga hbw hBB
        go_wp2_with fail
        rw [← hws]
        (try rw [← HWS.out])
        rw [← hw_w6]
        clear hws hw_w6 hg_ga hlt6 o1 f1
        refine (ports_none ⟨10, 2, [⟨1, [plT1], [plI1, plI2]⟩, ⟨0, [plT3], []⟩], [plW1, plW2], [⟨1, 1, 1, 2⟩]⟩ _ _ ⟨_, _, _, rfl, HPS.out.is 10 2⟩ (by decide)).mono ?_
        rintro e w7 ⟨rfl, hb⟩
        have HB7 := Lib.hid (bthen HB6.out hb)
        clear hb
        go_wp2_with (first | (go_at_call 11; refine (num_any _ _).mono ?_; rintro e w' ⟨rfl, hw⟩; subst w') | fail)
        go_ret
        exact ⟨rfl, HB7.out⟩
      · have b1 : (part != 0) = true := by rw [hpa]; rfl
        have b2 : (part != 1) = false := by rw [hpa]; rfl
        have b3 : (port != 0) = true := by simpa using hpo
        have e1 : fa = 1700 := by
          rw [hfa]; unfold foA
          simp only [decide_eq_true_eq, decide_eq_false_iff_not] at x1 x2
          rw [if_pos (by omega)]
        have e2 : fb = 1700 := by
          rw [hfb]; unfold foB
          rw [if_pos hpo]
        subst e1
        subst e2
        clear hfa hfb hpa hpo
        go_wp2_with fail
        refine (plainAt17_any _).mono ?_
        rintro e w5 ⟨b, rfl, hbw, hpl, hb⟩
        have hpb := PlainB.of hpl
        have o1 := BlockIs.of hpb.h6 1 _ rfl
        have f1 := thaw hpb.h6 1
        have hlt6 : b + 6 < w5.heap.size := hpb.lt
        have hps := hpb.set6 1
        have hBB : w.heap.size ≤ b + 6 := by have := HB4.out.size; omega
        have hbs := bput (bthen HB4.out hb) (set_grown w5 (b + 6) 1 (.int .i64 1)) hBB (Nat.le_refl _)
        obtain ⟨ws, hws⟩ : ∃ ws, ws = w5.setCell ⟨b + 6, 1, none⟩ (.int .i64 1) := ⟨_, rfl⟩
        rw [← hws] at hps hbs
        obtain ⟨w6, hw_w6⟩ : ∃ w6, w6 = ws.alloc (.cells #[.int .i64 10, .int .i64 2, plainPs b, plainWs b, plainOs b] 26) := ⟨_, rfl⟩
        obtain ⟨ga, hg_ga⟩ : ∃ ga, ga = ws.heap.size := ⟨_, rfl⟩
        have hb_w6 : Below ws.heap.size ws w6 := by rw [hw_w6]; exact balloc _ _
        have hk_ga : w6.heap[ga]? = some (.cells #[.int .i64 10, .int .i64 2, plainPs b, plainWs b, plainOs b] 26 (0, 0)) := by rw [hw_w6, hg_ga]; exact blk_new _ _
        have hs_w6 : w6.heap.size = ws.heap.size + 1 := by rw [hw_w6]; simp
        have HPS := Lib.hid (hps.keep hb_w6)
        have HB6 := Lib.hid (bthen hbs hb_w6)
        have HWS := Lib.hid (show ws.heap.size = w5.heap.size by rw [hws]; simp)
        clear hb hpl hpb hps hbs hb_w6 hs_w6 hk_ga hbw hBB
        go_wp2_with fail
        rw [← hws]
        (try rw [← HWS.out])
        rw [← hw_w6]
        clear hws hw_w6 hg_ga hlt6 o1 f1
        refine (ports_none ⟨10, 2, [⟨1, [plT1], [plI1, plI2]⟩, ⟨0, [plT3], []⟩], [plW1, plW2], [⟨1, 1, 1, 2⟩]⟩ _ _ ⟨_, _, _, rfl, HPS.out.is 10 2⟩ (by decide)).mono ?_
        rintro e w7 ⟨rfl, hb⟩
        have HB7 := Lib.hid (bthen HB6.out hb)
        clear hb
        go_wp2_with (first | (go_at_call 11; refine (num_any _ _).mono ?_; rintro e w' ⟨rfl, hw⟩; subst w') | fail)
        go_ret
        exact ⟨rfl, HB7.out⟩
    · by_cases hpo : port = 0
      · have b1 : (part != 0) = true := by simp [hpa.1]
        have b2 : (part != 1) = true := by simp [hpa.2]
        have b3 : (port != 0) = false := by simpa using hpo
        have e1 : fa = 1700 := by
          rw [hfa]; unfold foA
          simp only [decide_eq_true_eq, decide_eq_false_iff_not] at x1 x2
          rw [if_pos (by omega)]
        have e2 : fb = 1701 := by
          rw [hfb]; unfold foB
          rw [if_neg (by omega), if_pos (by omega)]
        subst e1
        subst e2
        clear hfa hfb hpa hpo
        go_wp2_with fail
        refine (plainAt17_any _).mono ?_
        rintro e w5 ⟨b, rfl, hbw, hpl, hb⟩
        have hpb := PlainB.of hpl
        have o1 := BlockIs.of hpb.h6 1 _ rfl
        have f1 := thaw hpb.h6 1
        have hlt6 : b + 6 < w5.heap.size := hpb.lt
        have hps := hpb.set6 1
        have hBB : w.heap.size ≤ b + 6 := by have := HB4.out.size; omega
        have hbs := bput (bthen HB4.out hb) (set_grown w5 (b + 6) 1 (.int .i64 1)) hBB (Nat.le_refl _)
        obtain ⟨ws, hws⟩ : ∃ ws, ws = w5.setCell ⟨b + 6, 1, none⟩ (.int .i64 1) := ⟨_, rfl⟩
        rw [← hws] at hps hbs
        obtain ⟨w6, hw_w6⟩ : ∃ w6, w6 = ws.alloc (.cells #[.int .i64 10, .int .i64 2, plainPs b, plainWs b, plainOs b] 26) := ⟨_, rfl⟩
        obtain ⟨ga, hg_ga⟩ : ∃ ga, ga = ws.heap.size := ⟨_, rfl⟩
        have hb_w6 : Below ws.heap.size ws w6 := by rw [hw_w6]; exact balloc _ _
        have hk_ga : w6.heap[ga]? = some (.cells #[.int .i64 10, .int .i64 2, plainPs b, plainWs b, plainOs b] 26 (0, 0)) := by rw [hw_w6, hg_ga]; exact blk_new _ _
        have hs_w6 : w6.heap.size = ws.heap.size + 1 := by rw [hw_w6]; simp
        have HPS := Lib.hid (hps.keep hb_w6)
        have HB6 := Lib.hid (bthen hbs hb_w6)
        have HWS := Lib.hid (show ws.heap.size = w5.heap.size by rw [hws]; simp)
        clear hb hpl hpb hps hbs hb_w6 hs_w6 hk_ga hbw hBB
        go_wp2_with fail
        rw [← hws]
        (try rw [← HWS.out])
        rw [← hw_w6]
        clear hws hw_w6 hg_ga hlt6 o1 f1
        refine (ports_none ⟨10, 2, [⟨1, [plT1], [plI1, plI2]⟩, ⟨0, [plT3], []⟩], [plW1, plW2], [⟨1, 1, 1, 2⟩]⟩ _ _ ⟨_, _, _, rfl, HPS.out.is 10 2⟩ (by decide)).mono ?_
        rintro e w7 ⟨rfl, hb⟩
        have HB7 := Lib.hid (bthen HB6.out hb)
        clear hb
        go_wp2_with (first | (go_at_call 11; refine (num_any _ _).mono ?_; rintro e w' ⟨rfl, hw⟩; subst w') | fail)
        go_ret
        exact ⟨rfl, HB7.out⟩
      · have b1 : (part != 0) = true := by simp [hpa.1]
        have b2 : (part != 1) = true := by simp [hpa.2]
        have b3 : (port != 0) = true := by simpa using hpo
        have e1 : fa = 1700 := by
          rw [hfa]; unfold foA
          simp only [decide_eq_true_eq, decide_eq_false_iff_not] at x1 x2
          rw [if_pos (by omega)]
        have e2 : fb = 1700 := by
          rw [hfb]; unfold foB
          rw [if_pos hpo]
        subst e1
        subst e2
        clear hfa hfb hpa hpo
        go_wp2_with fail
        refine (plainAt17_any _).mono ?_
        rintro e w5 ⟨b, rfl, hbw, hpl, hb⟩
        have hpb := PlainB.of hpl
        have o1 := BlockIs.of hpb.h6 1 _ rfl
        have f1 := thaw hpb.h6 1
        have hlt6 : b + 6 < w5.heap.size := hpb.lt
        have hps := hpb.set6 1
        have hBB : w.heap.size ≤ b + 6 := by have := HB4.out.size; omega
        have hbs := bput (bthen HB4.out hb) (set_grown w5 (b + 6) 1 (.int .i64 1)) hBB (Nat.le_refl _)
        obtain ⟨ws, hws⟩ : ∃ ws, ws = w5.setCell ⟨b + 6, 1, none⟩ (.int .i64 1) := ⟨_, rfl⟩
        rw [← hws] at hps hbs
        obtain ⟨w6, hw_w6⟩ : ∃ w6, w6 = ws.alloc (.cells #[.int .i64 10, .int .i64 2, plainPs b, plainWs b, plainOs b] 26) := ⟨_, rfl⟩
        obtain ⟨ga, hg_ga⟩ : ∃ ga, ga = ws.heap.size := ⟨_, rfl⟩
        have hb_w6 : Below ws.heap.size ws w6 := by rw [hw_w6]; exact balloc _ _
        have hk_ga : w6.heap[ga]? = some (.cells #[.int .i64 10, .int .i64 2, plainPs b, plainWs b, plainOs b] 26 (0, 0)) := by rw [hw_w6, hg_ga]; exact blk_new _ _
        have hs_w6 : w6.heap.size = ws.heap.size + 1 := by rw [hw_w6]; simp
        have HPS := Lib.hid (hps.keep hb_w6)
        have HB6 := Lib.hid (bthen hbs hb_w6)
        have HWS := Lib.hid (show ws.heap.size = w5.heap.size by rw [hws]; simp)
        clear hb hpl hpb hps hbs hb_w6 hs_w6 hk_ga hbw hBB
        go_wp2_with fail
        rw [← hws]
        (try rw [← HWS.out])
        rw [← hw_w6]
        clear hws hw_w6 hg_ga hlt6 o1 f1
        refine (ports_none ⟨10, 2, [⟨1, [plT1], [plI1, plI2]⟩, ⟨0, [plT3], []⟩], [plW1, plW2], [⟨1, 1, 1, 2⟩]⟩ _ _ ⟨_, _, _, rfl, HPS.out.is 10 2⟩ (by decide)).mono ?_
        rintro e w7 ⟨rfl, hb⟩
        have HB7 := Lib.hid (bthen HB6.out hb)
        clear hb
        go_wp2_with (first | (go_at_call 11; refine (num_any _ _).mono ?_; rintro e w' ⟨rfl, hw⟩; subst w') | fail)
        go_ret
        exact ⟨rfl, HB7.out⟩
end Go.Proofs.Ytkjjfidbmkpljaa
