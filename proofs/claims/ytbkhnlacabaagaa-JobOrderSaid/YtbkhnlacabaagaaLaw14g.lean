/- Chapter 14's law JobOrder (printed by gen14g.py). -/
import Derived.Test.YtbkhnlacabaagaaLaw14b
import Derived.Test.YtbkhnlacabaagaaOrdP
import Derived.Test.YtbkhnlacabaagaaFlat
set_option linter.unusedVariables false
set_option linter.unusedSimpArgs false
namespace Go.Proofs.Ytbkhnlacabaagaa
open Go.RowKit

theorem infoTask : (Try.prog.info? 50).map (fun i => (i.zero, i.size, i.bytes)) = some (some (.agg #[.int .i64 0, .int .i64 0, .int .i64 0, .int .i64 0, .int .i64 0, .int .i64 0]), 6, 48) := by kernel_rfl
def taskC (pr : Int) : List Value := [.int .i64 1, .int .i64 90, .int .i64 90, .int .i64 9, .int .i64 9, .int .i64 pr]
/-- What holds while a task is appended: the part's block, its row. -/
structure OrT (w : World) (gp : Nat) (r : Value) (n : Nat) (xs cs : List Value) (PV : Nat → Value → Prop) (L : Nat → Bool) (vs : Nat → Value) (W : World) : Prop where
  pv : ∀ i, L i = true → PV i (vs i)
  below : Below w.heap.size w W
  row0 : L 12 = false → W.ownsRow w.heap.size 50 6 r n xs
  sl : L 11 = true → L 12 = false → ∃ g, vs 11 = .slice (some ⟨g, 0, none⟩) 1 1 ∧ W.heap[g]? = some (.cells cs.toArray 50 (0, 0))
  row1 : L 12 = true → W.ownsRow w.heap.size 50 6 (vs 12) (n + 1) (xs ++ cs)
  cell : W.heap[gp]? = some (.cells #[.int .i64 1, if L 14 = true then vs 12 else r, .slice none 0 0] 25 (0, 0))
def OtV (gp i n rcc : Nat) (ra : Option Addr) (xb xo vc : Nat) (x : Int) (y : Nat) (y8 pr : Int) (a : Nat) (v : Value) : Prop := match a with
  | 0 => v = .pointer (some ⟨gp, 1, none⟩)
  | 1 => v = .slice ra i rcc
  | 2 => v = .slice (some ⟨xb, xo, none⟩) n vc
  | 3 => v = .int .i64 (i : Int)
  | 4 => v = .pointer (some ⟨xb, xo + i, none⟩)
  | 5 => v = .int .i64 x
  | 6 => v = .int .i64 (y : Int)
  | 7 => v = .int .i64 y8
  | 8 => v = .int .i64 (i : Int)
  | 9 => v = .int .i64 pr
  | 10 => v = .agg #[.int .i64 1, .int .i64 90, .int .i64 90, .int .i64 9, .int .i64 9, .int .i64 pr]
  | 13 => v = .pointer (some ⟨gp, 1, none⟩)
  | _ => True

set_option maxRecDepth 100000 in
set_option maxHeartbeats 16000000 in
theorem jobOrder_any (xs : List Int) (v : Value) (demand : Int) (w : World) (hv : IntsV w v xs) :
    Calls Try.prog 4 #[v, .int .i64 demand] w fun e w' => e = .returned (.bool true) ∧ Below w.heap.size w w' := by
  obtain ⟨yd, hyd⟩ := Int.eq_ofNat_of_zero_le (show 0 ≤ bits BinOp.and IntKind.i64 demand 3 by rw [i64_and3]; omega)
  have hyd1 : yd ≤ 3 := by have := i64_and3 demand; omega
  obtain ⟨d, hd⟩ : ∃ d : Nat, d = 1 + yd := ⟨_, rfl⟩
  have hd1 : IntKind.i64.wrap (1 + (yd : Int)) = (d : Int) := by rw [IntKind.wrap_i64]; omega
  have HD := Lib.hid (show 1 ≤ d ∧ d ≤ 4 by omega)
  have HV := Lib.hid hv
  obtain ⟨va, vc, rfl, hz1, hz2, hz3, -⟩ := id hv
  obtain ⟨n, hn⟩ : ∃ n, n = xs.length := ⟨_, rfl⟩
  rw [← hn] at HV ⊢
  have hnb : n ≤ 1000000000000000000 := by omega
  have HN := Lib.hid hn
  clear hd hv hz1 hz2 hz3 hn
  go_enter Try.func4, Try.ntmps4
  go_wp2_with fail
  refine (awake14 _).mono ?_
  rintro e w1 ⟨rfl, hb⟩
  have HB1 := Lib.hid hb
  clear hb
  obtain ⟨w2, hw_w2⟩ : ∃ w2, w2 = w1.alloc (.cells #[.int .i64 1, .slice none 0 0, .slice none 0 0] 25) := ⟨_, rfl⟩
  obtain ⟨gp, hg_gp⟩ : ∃ gp, gp = w1.heap.size := ⟨_, rfl⟩
  have hb_w2 : Below w1.heap.size w1 w2 := by rw [hw_w2]; exact balloc _ _
  have hk_gp : w2.heap[gp]? = some (.cells #[.int .i64 1, .slice none 0 0, .slice none 0 0] 25 (0, 0)) := by rw [hw_w2, hg_gp]; exact blk_new _ _
  have hs_w2 : w2.heap.size = w1.heap.size + 1 := by rw [hw_w2]; simp
  subst hg_gp
  have HB2 := Lib.hid (bthen HB1.out hb_w2)
  have HK2 := Lib.hid hk_gp
  obtain ⟨gp, hgp⟩ : ∃ gp, gp = w1.heap.size := ⟨_, rfl⟩
  have HGP := Lib.hid (show w.heap.size ≤ gp by rw [hgp]; exact HB1.out.size)
  rw [← hgp] at HK2
  clear hb_w2 hk_gp hs_w2
  go_upto_region 5 with (fail)
  rw [← hw_w2, ← hgp]
  clear hw_w2 hgp HB1
  go_wp2_with fail
  go_loopw [6] (fun iv wr => ∃ (i : Nat) (ra : Option Addr) (rcc : Nat), i ≤ n ∧ i ≤ 5 ∧ iv = .int .i64 i ∧ Hid (wr.heap[gp]? = some (.cells #[.int .i64 1, .slice ra i rcc, .slice none 0 0] 25 (0, 0))) ∧ Hid (wr.ownsRow w.heap.size 50 6 (.slice ra i rcc) i ((orTs xs i).flatMap taskCells)) ∧ Hid (Below w.heap.size w wr)) (fun iv _ => n - (intOf iv).toNat)
  case atStart => exact ⟨0, none, 0, by omega, by omega, rfl, HK2, Lib.hid (World.ownsRow_nil _ _ _ _), HB2⟩
  case round =>
    obtain ⟨i, ra, rcc, hin, hi5, rfl, HCB, HRW, HB⟩ := hrel
    by_cases hgo : i < n ∧ i < 5
    · obtain ⟨h1, h2⟩ := hgo
      have c1 : (i : Int) < (n : Int) := by omega
      have c2 : (i : Int) < 5 := by omega
      have c1n : i < n := h1
      have hxl : i < xs.length := by rw [← HN.out]; exact h1
      obtain ⟨x, hx⟩ : ∃ x, x = xs[i] := ⟨_, rfl⟩
      obtain ⟨xb, xo, xc, ec, HZ0⟩ : ∃ q off c, Value.slice va n vc = .slice (some ⟨q, off, none⟩) n c ∧ Hid (IntAt w q (off + i) x) := by
        obtain ⟨b, off, cap, e, hc⟩ := HV.out.get hxl
        injection e with e _ e3
        exact ⟨b, off, cap, by rw [e, e3], Lib.hid (by rw [hx]; exact hc)⟩
      injection ec with ec _ ec2
      subst ec
      subst ec2
      unfold IntAt at HZ0
      obtain ⟨y, hy⟩ := Int.eq_ofNat_of_zero_le (show 0 ≤ bits BinOp.and IntKind.i64 x 31 by rw [i64_and31]; omega)
      have hy1 : y ≤ 31 := by have := i64_and31 x; omega
      obtain ⟨y8, hy8⟩ : ∃ y8 : Int, y8 = (y : Int) * 8 := ⟨_, rfl⟩
      have hm8 : IntKind.i64.wrap ((y : Int) * 8) = y8 := by rw [IntKind.wrap_i64, hy8]; omega
      obtain ⟨pr, hpr⟩ : ∃ pr : Int, pr = y8 + (i : Int) := ⟨_, rfl⟩
      have hm9 : IntKind.i64.wrap (y8 + (i : Int)) = pr := by rw [IntKind.wrap_i64, hpr]; omega
      have HPR := Lib.hid (show orTs xs (i + 1) = orTs xs i ++ [orT pr] by
        unfold orTs
        rw [List.range_succ, List.map_append]
        congr 1
        simp only [List.map_cons, List.map_nil]
        congr 2
        unfold orPr
        rw [List.getD_eq_getElem?_getD, List.getElem?_eq_getElem hxl]
        simp only [Option.getD_some]
        rw [← hx]
        have := i64_and31 x
        omega)
      clear hx hy8 hpr
      go_wp2_with fail
      refine region_inv0 rfl (by kernel_rfl) (OrT w gp (.slice ra i rcc) i ((orTs xs i).flatMap taskCells) (taskC pr) (OtV gp i n rcc ra xb xo vc x y y8 pr)) (fun vs h0 => ⟨(fun i h => by cases h), below_drew HB.out, (fun _ => HRW.out), (fun h => by cases h), (fun h => by cases h), HCB.out⟩) ?_ ?_
      · simp (config := { maxSteps := 4000000 }) only [List.map, putAll, Act.put, InvE, List.setIfInBounds_toArray, List.set_cons_succ, List.set_cons_zero, Nat.reduceAdd]
        refine ⟨?_, ?_, ?_, ?_, ?_, ?_, ?_, ?_, ?_, ?_, ?_, ?_, ?_, ?_, ?_, trivial⟩
        all_goals
          intro L vs W hI hi hn hcl K hK
          rw [if_pos (by simp [Region.wanted])]
        · have HK := Lib.hid (fun (v : Value) (h : v = .pointer (some ⟨gp, 1, none⟩)) => hK v W ⟨pv_upd hI.pv h, hI.below, hI.row0, hI.sl, hI.row1, hI.cell⟩)
          clear hK hI hn hcl hi
          go_simp
          exact HK.out _ rfl
        · have r0 : vs 0 = .pointer (some ⟨gp, 1, none⟩) := hI.pv 0 (hn 0 rfl)
          have h14n : L 14 = false := by
            cases h : L 14
            · rfl
            · exact absurd (hcl 12 _ rfl (hcl 14 _ rfl h 12 rfl) 1 rfl) (Bool.eq_false_iff.1 hi)
          have hc := hI.cell
          rw [h14n] at hc
          simp only [Bool.false_eq_true, if_false] at hc
          have y1 := BlockIs.of hc 1 _ rfl
          clear hc h14n
          simp only [r0] at hK ⊢
          have HK := Lib.hid (fun (v : Value) (h : v = .slice ra i rcc) => hK v W ⟨pv_upd hI.pv h, hI.below, hI.row0, hI.sl, hI.row1, hI.cell⟩)
          clear hK hI hn hcl hi
          go_simp
          exact HK.out _ rfl
        · have HK := Lib.hid (fun (v : Value) (h : v = .slice (some ⟨xb, xo, none⟩) n vc) => hK v W ⟨pv_upd hI.pv h, hI.below, hI.row0, hI.sl, hI.row1, hI.cell⟩)
          clear hK hI hn hcl hi
          go_simp
          exact HK.out _ rfl
        · have HK := Lib.hid (fun (v : Value) (h : v = .int .i64 (i : Int)) => hK v W ⟨pv_upd hI.pv h, hI.below, hI.row0, hI.sl, hI.row1, hI.cell⟩)
          clear hK hI hn hcl hi
          go_simp
          exact HK.out _ rfl
        · have r2 : vs 2 = .slice (some ⟨xb, xo, none⟩) n vc := hI.pv 2 (hn 2 rfl)
          have r3 : vs 3 = .int .i64 (i : Int) := hI.pv 3 (hn 3 rfl)
          simp only [r2, r3] at hK ⊢
          have HK := Lib.hid (fun (v : Value) (h : v = .pointer (some ⟨xb, xo + i, none⟩)) => hK v W ⟨pv_upd hI.pv h, hI.below, hI.row0, hI.sl, hI.row1, hI.cell⟩)
          clear hK hI hn hcl hi
          go_simp
          exact HK.out _ rfl
        · have r4 : vs 4 = .pointer (some ⟨xb, xo + i, none⟩) := hI.pv 4 (hn 4 rfl)
          have z0 := Ext.below hI.below _ _ HZ0.out
          simp only [r4] at hK ⊢
          have HK := Lib.hid (fun (v : Value) (h : v = .int .i64 x) => hK v W ⟨pv_upd hI.pv h, hI.below, hI.row0, hI.sl, hI.row1, hI.cell⟩)
          clear hK hI hn hcl hi
          go_simp
          exact HK.out _ rfl
        · have r5 : vs 5 = .int .i64 x := hI.pv 5 (hn 5 rfl)
          simp only [r5] at hK ⊢
          have HK := Lib.hid (fun (v : Value) (h : v = .int .i64 (y : Int)) => hK v W ⟨pv_upd hI.pv h, hI.below, hI.row0, hI.sl, hI.row1, hI.cell⟩)
          clear hK hI hn hcl hi
          go_simp
          exact HK.out _ rfl
        · have r6 : vs 6 = .int .i64 (y : Int) := hI.pv 6 (hn 6 rfl)
          simp only [r6] at hK ⊢
          have HK := Lib.hid (fun (v : Value) (h : v = .int .i64 y8) => hK v W ⟨pv_upd hI.pv h, hI.below, hI.row0, hI.sl, hI.row1, hI.cell⟩)
          clear hK hI hn hcl hi
          go_simp
          exact HK.out _ rfl
        · have HK := Lib.hid (fun (v : Value) (h : v = .int .i64 (i : Int)) => hK v W ⟨pv_upd hI.pv h, hI.below, hI.row0, hI.sl, hI.row1, hI.cell⟩)
          clear hK hI hn hcl hi
          go_simp
          exact HK.out _ rfl
        · have r7 : vs 7 = .int .i64 y8 := hI.pv 7 (hn 7 rfl)
          have r8 : vs 8 = .int .i64 (i : Int) := hI.pv 8 (hn 8 rfl)
          simp only [r7, r8] at hK ⊢
          have HK := Lib.hid (fun (v : Value) (h : v = .int .i64 pr) => hK v W ⟨pv_upd hI.pv h, hI.below, hI.row0, hI.sl, hI.row1, hI.cell⟩)
          clear hK hI hn hcl hi
          go_simp
          exact HK.out _ rfl
        · have r9 : vs 9 = .int .i64 pr := hI.pv 9 (hn 9 rfl)
          simp only [r9] at hK ⊢
          have HK := Lib.hid (fun (v : Value) (h : v = .agg #[.int .i64 1, .int .i64 90, .int .i64 90, .int .i64 9, .int .i64 9, .int .i64 pr]) => hK v W ⟨pv_upd hI.pv h, hI.below, hI.row0, hI.sl, hI.row1, hI.cell⟩)
          clear hK hI hn hcl hi
          go_simp
          exact HK.out _ rfl
        · have r10 : vs 10 = .agg #[.int .i64 1, .int .i64 90, .int .i64 90, .int .i64 9, .int .i64 9, .int .i64 pr] := hI.pv 10 (hn 10 rfl)
          have h12n : L 12 = false := by
            cases h : L 12
            · rfl
            · exact absurd (hcl 12 _ rfl h 11 rfl) (Bool.eq_false_iff.1 hi)
          have h14n : L 14 = false := by
            cases h : L 14
            · rfl
            · exact absurd (hcl 12 _ rfl (hcl 14 _ rfl h 12 rfl) 11 rfl) (Bool.eq_false_iff.1 hi)
          simp only [r10] at hK ⊢
          have HK := Lib.hid hK
          have HI := Lib.hid hI
          have HF := Lib.hid (And.intro h12n h14n)
          clear hK hI hn hcl hi h12n h14n
          go_simp
          have hb := balloc W (.cells (taskC pr).toArray 50)
          refine HK.out _ _ ⟨pv_upd HI.out.pv trivial, bthen HI.out.below hb, (fun q => Below.kept (HI.out.row0 q) hb), (fun _ _ => ⟨W.heap.size, rfl, blk_new _ _⟩), (fun q => absurd q (Bool.eq_false_iff.1 HF.out.1)), ?_⟩
          have hc := HI.out.cell
          rw [HF.out.2] at hc
          show (W.alloc _).heap[gp]? = _
          rw [show updB L 11 14 = L 14 from rfl, HF.out.2]
          exact keep_at hc hb
        · have r1 : vs 1 = .slice ra i rcc := hI.pv 1 (hn 1 rfl)
          have h14n : L 14 = false := by
            cases h : L 14
            · rfl
            · exact absurd (hcl 14 _ rfl h 12 rfl) (Bool.eq_false_iff.1 hi)
          obtain ⟨g9, e9, hk9⟩ := hI.sl (hn 11 rfl) hi
          have hr : W.ownsRow w.heap.size 50 6 (.slice ra i rcc) i ((orTs xs i).flatMap taskCells) := hI.row0 hi
          have hsrc : Src W (vs 11) 1 (taskC pr) := .inr ⟨⟨g9, 0, none⟩, 1, e9, fun j u hu => by rw [addr_add]; have h := BlockIs.of hk9 j u (by simpa using hu); simpa using h⟩
          refine wp_onto _ (.tmp 30) (.tmp 40) 22 rfl w.heap.size 50 _ 6 48 Try.underlying22 infoTask rfl (by decide) (.slice ra i rcc) i _ (hI.pv 1 (hn 1 rfl)) hr 1 (taskC pr) hsrc rfl (by simp [taskC, Value.oneCell']) (by simp only [maxLen]; omega) (by omega) hI.below.size ?_
          intro v' w' ho hg3
          have hty : ∀ q, (Value.slice ra i rcc).ownBlock = some q → Typed W q 50 := fun q h => own_typed hr h
          have hkb := hI.cell
          rw [h14n] at hkb
          refine hK v' w' ⟨pv_upd hI.pv trivial, hI.below.grown hg3 hI.below.size (fun q hq => (hr.lt q hq).1), (fun q => absurd q (by simp [updB])), (fun _ q => absurd q (by simp [updB])), (fun _ => ho), ?_⟩
          rw [show updB L 12 14 = L 14 from rfl, h14n]
          exact typed_apart hkb hg3 hty (by decide)
        · have HK := Lib.hid (fun (v : Value) (h : v = .pointer (some ⟨gp, 1, none⟩)) => hK v W ⟨pv_upd hI.pv h, hI.below, hI.row0, hI.sl, hI.row1, hI.cell⟩)
          clear hK hI hn hcl hi
          go_simp
          exact HK.out _ rfl
        · have r13 : vs 13 = .pointer (some ⟨gp, 1, none⟩) := hI.pv 13 (hn 13 rfl)
          have h12 : L 12 = true := hn 12 rfl
          have hx := hI.row1 h12
          have hc := hI.cell
          rw [hi] at hc
          simp only [Bool.false_eq_true, if_false] at hc
          have y1 := BlockIs.of hc 1 _ rfl
          have f1 := thaw hc 1
          obtain ⟨ra2, rc2, e12⟩ := own_shape hx
          have hgs := set_grown W gp 1 (vs 12)
          have hty : ∀ q, some gp = some q → Typed W q 25 := fun q h => by injection h with h; rw [← h]; exact ⟨_, hc⟩
          have HN := Lib.hid (show OrT w gp (.slice ra i rcc) i ((orTs xs i).flatMap taskCells) (taskC pr) (OtV gp i n rcc ra xb xo vc x y y8 pr) (updB L 14) (upd vs 14 undef) (W.setCell ⟨gp, 1, none⟩ (vs 12)) from ⟨pv_upd hI.pv trivial, hI.below.grown hgs hI.below.size (fun q hq => by injection hq with hq; rw [← hq]; exact HGP.out), (fun q => absurd q (by rw [show updB L 14 12 = L 12 from rfl, h12]; decide)), (fun _ q => absurd q (by rw [show updB L 14 12 = L 12 from rfl, h12]; decide)), (fun _ => own_apart hx hgs hty (by decide)), by have h := blk_set hc 1 (vs 12); simp only [List.setIfInBounds_toArray, List.set_cons_succ, List.set_cons_zero] at h; exact h⟩)
          rw [e12] at HN
          simp only [r13, e12] at hK ⊢
          have HK := Lib.hid hK
          clear hK hI hn hcl hi h12 hx hc hgs hty e12
          go_simp
          exact HK.out _ _ HN.out
      · intro vs W hI
        simp only [List.map, putAll, Act.put, List.setIfInBounds_toArray, List.set_cons_succ, List.set_cons_zero, Nat.reduceAdd]
        have hrow := hI.row1 (by simp)
        have hcell := hI.cell
        simp only [List.length_cons, List.length_nil, Nat.zero_add, Nat.reduceAdd, Nat.reduceLT, decide_true, if_true] at hcell
        have r0 : vs 0 = .pointer (some ⟨gp, 1, none⟩) := hI.pv 0 (by simp)
        have r1 : vs 1 = .slice ra i rcc := hI.pv 1 (by simp)
        have r2 : vs 2 = .slice (some ⟨xb, xo, none⟩) n vc := hI.pv 2 (by simp)
        have r3 : vs 3 = .int .i64 (i : Int) := hI.pv 3 (by simp)
        have r4 : vs 4 = .pointer (some ⟨xb, xo + i, none⟩) := hI.pv 4 (by simp)
        have r5 : vs 5 = .int .i64 x := hI.pv 5 (by simp)
        have r6 : vs 6 = .int .i64 (y : Int) := hI.pv 6 (by simp)
        have r7 : vs 7 = .int .i64 y8 := hI.pv 7 (by simp)
        have r8 : vs 8 = .int .i64 (i : Int) := hI.pv 8 (by simp)
        have r9 : vs 9 = .int .i64 pr := hI.pv 9 (by simp)
        have r10 : vs 10 = .agg #[.int .i64 1, .int .i64 90, .int .i64 90, .int .i64 9, .int .i64 9, .int .i64 pr] := hI.pv 10 (by simp)
        have r13 : vs 13 = .pointer (some ⟨gp, 1, none⟩) := hI.pv 13 (by simp)
        have HRS := Lib.hid (And.intro hrow (And.intro hcell hI.below))
        obtain ⟨ra2, rc2, e12⟩ := own_shape hrow
        simp only [r0, r1, r2, r3, r4, r5, r6, r7, r8, r9, r10, r13]
        clear hI hrow hcell r0 r1 r2 r3 r4 r5 r6 r7 r8 r9 r10 r13
        have HR := Lib.hid (show W.ownsRow w.heap.size 50 6 (.slice ra2 (i + 1) rc2) (i + 1) ((orTs xs (i + 1)).flatMap taskCells) by
          rw [HPR.out, List.flatMap_append]
          have h := HRS.out.1
          rw [e12] at h
          simpa [taskC, taskCells, orT] using h)
        have HC := Lib.hid (show W.heap[gp]? = some (.cells #[.int .i64 1, .slice ra2 (i + 1) rc2, .slice none 0 0] 25 (0, 0)) by
          have h := HRS.out.2.1
          rw [e12] at h
          exact h)
        have HBW := Lib.hid HRS.out.2.2
        clear HRS e12
        go_wp2_with fail
        go_roundw
        case rel => exact ⟨i + 1, ra2, rc2, by omega, by omega, by go_num, HC, HR, HBW⟩
        case measure => simp [intOf]; omega
    · by_cases h1 : i < n
      · have c1 : (i : Int) < (n : Int) := by omega
        have c2 : ¬ (i : Int) < 5 := by omega
        have HP := Lib.hid (show PartIs wr (.slice ra i rcc) (.slice none 0 0) ⟨1, orTs xs i, []⟩ from ⟨by
          have h := HRW.out
          have e : (orTs xs i).length = i := by simp [orTs]
          have h2 := flatTask.slice (B := 48) (base := w.heap.size) (e := 50) (v := .slice ra i rcc) (xs := orTs xs i) (by rw [e]; exact h) (by rw [e]; omega)
          exact h2, slice0 _ _ _ _⟩)
        have p0 := BlockIs.of HCB.out 0 _ rfl
        have p1 := BlockIs.of HCB.out 1 _ rfl
        have p2 := BlockIs.of HCB.out 2 _ rfl
        go_wp2_with fail
        refine (new_is 0 ⟨1, orTs xs i, []⟩ _ _ _ HP.out (or_new xs hi5)).mono ?_
        rintro e w3 ⟨b0, rfl, hl, hb⟩
        have HL3 := Lib.hid hl
        have HB3 := Lib.hid (bthen HB.out hb)
        have HC3 := Lib.hid (keep_at HCB.out hb)
        have HGL := Lib.hid (lt_of_block HCB.out)
        obtain ⟨lo, hlo⟩ : ∃ lo, lo = wr.heap.size := ⟨_, rfl⟩
        have HLO := Lib.hid (show w.heap.size ≤ lo by rw [hlo]; exact HB.out.size)
        rw [← hlo] at HL3 HGL
        have HTL := Lib.hid (show ∀ wx, Below lo w3 wx → wx.heap[gp]? = some (.cells #[.int .i64 1, .slice ra i rcc, .slice none 0 0] 25 (0, 0)) ∧ TasksV wx (.slice ra i rcc) (orTs xs i) from fun wx hbx => by
          refine ⟨(hbx.block _ HGL.out).trans HC3.out, ?_⟩
          have h := HRW.out
          have hw3 : w3.ownsRow w.heap.size 50 6 (.slice ra i rcc) i ((orTs xs i).flatMap taskCells) := Below.kept h hb
          have hwx : wx.ownsRow w.heap.size 50 6 (.slice ra i rcc) i ((orTs xs i).flatMap taskCells) := by
            refine ⟨hw3.1, ?_⟩
            rcases h.2 with q | ⟨g, cap, cur, h1, h2, h3, h4⟩
            · exact .inl q
            · rcases hw3.2 with q' | ⟨g', cap', cur', k1, k2, k3, k4⟩
              · exact .inl q'
              · refine .inr ⟨g', cap', cur', k1, k2, (hbx.block g' ?_).trans k3, k4⟩
                rw [h1] at k1
                injection k1 with k1 _ _
                injection k1 with k1
                injection k1 with k1
                rw [← k1, hlo]
                exact lt_of_block h3
          have e : (orTs xs i).length = i := by simp [orTs]
          exact flatTask.slice (B := 48) (base := w.heap.size) (e := 50) (v := .slice ra i rcc) (xs := orTs xs i) (by rw [e]; exact hwx) (by rw [e]; omega))
        have HLX := Lib.hid (show ∃ S : LSt, LocIs w3 b0 lo S (6 * ((0 : Nat) : Int)) ∧ OrI xs i d 0 S from ⟨_, HL3.out, or_start xs hi5 d⟩)
        clear hl hb hlo HP HCB HRW HB p0 p1 p2
        go_wp2_with (first | (go_at_call 12; refine (num_any _ _).mono ?_; rintro e w' ⟨rfl, hw⟩; subst w') | fail)
        go_loopw [10] (fun kv wr => ∃ (k : Nat) (S : LSt), k ≤ i ∧ kv = .int .i64 k ∧ Hid (LocIs wr b0 lo S (6 * (k : Int))) ∧ Hid (OrI xs i d k S) ∧ Hid (Below lo w3 wr)) (fun kv _ => i - (intOf kv).toNat)
        case atStart =>
          obtain ⟨S, h1, h2⟩ := HLX.out
          exact ⟨0, S, by omega, rfl, Lib.hid h1, Lib.hid h2, Lib.hid (Below.refl _ _)⟩
        case round =>
          clear HLX
          obtain ⟨k, S, hki, rfl, HL, HO, HB⟩ := hrel
          have p1 := BlockIs.of (HTL.out _ HB.out).1 1 _ rfl
          by_cases hlt : k < i
          · have c5 : (k : Int) < (i : Int) := by omega
            have hst := or_step hi5 (by have := HD.out; omega) (by have := HD.out; omega) hlt HO.out
            have HST := Lib.hid hst.2
            have HCK := Lib.hid (clockYes (x := (k : Int)) (by omega) (by omega))
            clear hst
            go_wp2_with fail
            refine (pick_is b0 lo S (6 * (k : Int)) k d k _ HL.out).mono ?_
            rintro e w4 ⟨ra4, rn4, rc4, rfl, hl, -, hk⟩
            have HL4 := Lib.hid hl
            have HB4 := Lib.hid (HB.out.trans hk.below)
            clear hl hk p1 HL HB
            go_wp2_with fail
            refine (begin_is b0 lo _ (6 * (k : Int)) k _ HL4.out (by omega) HCK.out).mono ?_
            rintro e w5 ⟨ra5, rn5, rc5, rfl, hl, -, hk⟩
            obtain ⟨S5, hS5⟩ : ∃ S5, S5 = begS (pickSt S k d k) k := ⟨_, rfl⟩
            rw [← hS5] at hl HST
            have HL5 := Lib.hid (show LocIs w5 b0 lo S5 (6 * ((k + 1 : Nat) : Int)) by rw [show (6 * ((k + 1 : Nat) : Int)) = 6 * (k : Int) + 6 by omega]; exact hl)
            have HB5 := Lib.hid (HB4.out.trans hk.below)
            clear hl hk hS5 HL4 HB4
            go_wp2_with fail
            refine (jobs_is b0 lo S5 _ _ HL5.out).mono ?_
            rintro e w6 ⟨jv, rfl, hj, hb⟩
            obtain ⟨ja, jc, hjv⟩ := own_shape hj
            rw [HST.out.js] at hjv
            subst hjv
            have HL6 := Lib.hid (HL5.out.keep hb)
            have HB6 := Lib.hid (HB5.out.trans (hb.mono HL5.out.lo))
            have HJV := Lib.hid (JobRow.jobs hj (by rw [HST.out.js]; omega))
            obtain ⟨j0, jr, hjs⟩ : ∃ j r, S5.js = j :: r := by
              cases h : S5.js with
              | nil => have := HST.out.js; rw [h] at this; simp at this
              | cons a r => exact ⟨a, r, rfl⟩
            obtain ⟨jb, jo, ej, HJ0⟩ : ∃ q' o, Value.slice ja (k + 1) jc = .slice (some ⟨q', o, none⟩) (k + 1) jc ∧ Hid (JobAt w6 q' o j0) := by
              obtain ⟨a, cc, e, -, -, -, hq⟩ := HJV.out
              obtain ⟨q', o, e2, hq2⟩ := hq (by rw [hjs]; simp)
              injection e with e _ _
              refine ⟨q', o, by rw [e, e2], Lib.hid ?_⟩
              have := hq2 0 (by rw [hjs]; simp)
              simpa [hjs] using this
            injection ej with ej _ _
            subst ej
            have HLE := Lib.hid (show ∀ j : Nat, j < k + 1 → j0.prio ≤ orPr xs j from fun j hj => head_le HST.out.may hjs _ (HST.out.all j hj))
            have cw : IntKind.i64.wrap ((k : Int) + 1) = (k : Int) + 1 := by rw [IntKind.wrap_i64]; omega
            have cz : (0 : Int) < (k : Int) + 1 := by omega
            have cz2 : 0 < k + 1 := by omega
            clear hj hb hjs HL5 HB5 HJV
            go_wp2_with fail
            go_loopw [12] (fun kv wr => ∃ z : Nat, z ≤ k + 1 ∧ kv = .int .i64 z ∧ Hid (Below w6.heap.size w6 wr)) (fun kv _ => k + 1 - (intOf kv).toNat)
            case atStart => exact ⟨0, by omega, rfl, Lib.hid (Below.refl _ _)⟩
            case round =>
              obtain ⟨z, hz, rfl, HZ⟩ := hrel
              by_cases hzk : z ≤ k
              · have c6 : (z : Int) ≤ (k : Int) := by omega
                have c7 : (z : Int) < (i : Int) := by omega
                have c7n : z < i := by omega
                have hbz := HB6.out.trans (HZ.out.mono HL6.out.lo)
                obtain ⟨hgc, htv⟩ := HTL.out _ hbz
                have p1 := BlockIs.of hgc 1 _ rfl
                have hzt : z < (orTs xs i).length := by simp [orTs]; omega
                obtain ⟨tb, toff, et, t5⟩ : ∃ q' o, Value.slice ra i rcc = .slice (some ⟨q', o, none⟩) i rcc ∧ wr.cell? ⟨q', o + z * 6 + 5, none⟩ = some (.int .i64 (orPr xs z)) := by
                  obtain ⟨a, cc, e, -, -, -, hq⟩ := htv
                  obtain ⟨q', o, e2, hq2⟩ := hq (by intro h; rw [h] at hzt; simp at hzt)
                  injection e with e _ _
                  refine ⟨q', o, by rw [e, e2], ?_⟩
                  have h5 := (hq2 z hzt).2.2.2.2.2
                  have e6 : (orTs xs i)[z].prio = orPr xs z := by simp [orTs, orT]
                  unfold IntAt at h5
                  rw [e6] at h5
                  exact h5
                injection et with et _ _
                subst et
                obtain ⟨-, -, y2, -, -, -, -⟩ := HJ0.out.ext (Ext.below HZ.out)
                unfold IntAt at y2
                have hle := HLE.out z (by omega)
                obtain ⟨pz, hpz⟩ : ∃ pz, pz = orPr xs z := ⟨_, rfl⟩
                rw [← hpz] at t5 hle
                obtain ⟨p0, hp0⟩ : ∃ p0, p0 = j0.prio := ⟨_, rfl⟩
                rw [← hp0] at y2 hle
                have c8 : ¬ pz < p0 := by omega
                clear hgc htv hpz hp0 hbz hle
                go_wp2_with fail
                go_quiet (fail)
                go_wp2_with fail
                go_roundw
                case rel => exact ⟨z + 1, by omega, by go_num, Lib.hid (below_drewN HZ.out _)⟩
                case measure => simp [intOf]; omega
              · obtain rfl : z = k + 1 := by omega
                have HL7 := Lib.hid (HL6.out.keep HZ.out)
                have HB7 := Lib.hid (HB6.out.trans (HZ.out.mono HL6.out.lo))
                go_wp2_with fail
                go_roundw
                case rel => exact ⟨k + 1, S5, by omega, by go_num, HL7, HST, HB7⟩
                case measure => simp [intOf]; omega
          · obtain rfl : k = i := by omega
            have HRX := Lib.hid (or_run0 HO.out)
            clear HO
            go_wp2_with fail
            go_loopw [13, 14] (fun lv kv wr => ∃ (t : Nat) (last : Int) (S : LSt), (t : Int) ≤ 5 * (d : Int) ∧ lv = .int .i64 last ∧ kv = .int .i64 t ∧ Hid (LocIs wr b0 lo S (6 * (k : Int))) ∧ Hid (OrR xs k d t last S) ∧ Hid (Below lo w3 wr)) (fun _ kv _ => 5 * d + 1 - (intOf kv).toNat)
            case atStart => exact ⟨0, -1, S, by omega, rfl, rfl, HL, HRX, HB⟩
            case round =>
              clear HRX HL HB p1
              obtain ⟨t, last, S, ht, rfl, rfl, HL, HR, HB⟩ := hrel
              have hd4 := HD.out
              have cm : IntKind.i64.wrap (5 * (d : Int)) = 5 * (d : Int) := by rw [IntKind.wrap_i64]; omega
              by_cases htd : (t : Int) < 5 * (d : Int)
              · cases hjs : S.js with
                | nil =>
                  have HJS := Lib.hid hjs
                  clear hjs
                  go_wp2_with fail
                  refine (ready_is b0 lo S _ _ HL.out).mono ?_
                  rw [HJS.out]
                  rintro e w' ⟨rfl, hw⟩
                  subst w'
                  go_wp2_with fail
                  refine (ready_is b0 lo S _ _ HL.out).mono ?_
                  rw [HJS.out]
                  rintro e w' ⟨rfl, hw⟩
                  subst w'
                  go_wp2_with fail
                  go_ret
                  exact ⟨rfl, HB3.out.trans (HB.out.mono HLO.out)⟩
                | cons j0 jr =>
                  have HJS := Lib.hid hjs
                  have HGO := Lib.hid (or_go (by have := HD.out; omega) (by have := HD.out; omega) HR.out hjs)
                  clear hjs
                  go_wp2_with fail
                  refine (ready_is b0 lo S _ _ HL.out).mono ?_
                  rw [show decide (0 < S.js.length) = true by rw [HJS.out]; simp]
                  rintro e w' ⟨rfl, hw⟩
                  subst w'
                  go_wp2_with fail
                  refine (jobs_is b0 lo S _ _ HL.out).mono ?_
                  rintro e w6 ⟨jv, rfl, hj, hb⟩
                  have HL6 := Lib.hid (HL.out.keep hb)
                  have HB6 := Lib.hid (HB.out.trans (hb.mono HL.out.lo))
                  have hm16 := ((jobsMay_iff _).1 HL.out.wf.js).2
                  obtain ⟨jn, hjn⟩ : ∃ n, n = S.js.length := ⟨_, rfl⟩
                  have hjn1 : 1 ≤ jn := by rw [hjn, HJS.out]; simp
                  obtain ⟨jb, jo, jc, ej, y2⟩ : ∃ q' o c, jv = .slice (some ⟨q', o, none⟩) jn c ∧ w6.cell? ⟨q', o + 2, none⟩ = some (.int .i64 j0.prio) := by
                    obtain ⟨a, cc, e, -, -, -, hq⟩ := JobRow.jobs hj (by omega)
                    obtain ⟨q', o, e2, hq2⟩ := hq (by rw [HJS.out]; simp)
                    refine ⟨q', o, cc, by rw [e, e2, hjn], ?_⟩
                    have h2 := (hq2 0 (by rw [HJS.out]; simp)).2.2.1
                    unfold IntAt at h2
                    simpa [HJS.out] using h2
                  subst ej
                  have c9 : ¬ j0.prio < last := by have := HGO.out.1; omega
                  have c10 : ((jn : Int) == 0) = false := by rw [beq_eq_false_iff_ne]; omega
                  have c11 : (0 : Int) < (jn : Int) := by omega
                  have c12 : 0 < jn := by omega
                  clear hj hb hjn hm16 HL HB
                  go_wp2_with fail
                  refine (run_is b0 lo S _ _ HL6.out).mono ?_
                  rintro e w7 ⟨ra7, rn7, rc7, rfl, hl, -, hk⟩
                  have HL7 := Lib.hid hl
                  have HB7 := Lib.hid (HB6.out.trans hk.below)
                  clear hl hk y2
                  go_wp2_with fail
                  go_roundw
                  case rel => exact ⟨t + 1, j0.prio, runS S, by omega, rfl, by go_num, HL7, Lib.hid (by have h := HGO.out.2; rw [show ((t : Int) + 1) = ((t + 1 : Nat) : Int) by omega] at h; exact h), HB7⟩
                  case measure => simp [intOf]; omega
              · have HJS := Lib.hid (or_end hi5 (by have := HD.out; omega) HR.out (by omega))
                go_wp2_with fail
                refine (ready_is b0 lo S _ _ HL.out).mono ?_
                rw [HJS.out]
                rintro e w' ⟨rfl, hw⟩
                subst w'
                go_wp2_with fail
                go_ret
                exact ⟨rfl, HB3.out.trans (HB.out.mono HLO.out)⟩
      · have c1 : ¬ (i : Int) < (n : Int) := by omega
        have HP := Lib.hid (show PartIs wr (.slice ra i rcc) (.slice none 0 0) ⟨1, orTs xs i, []⟩ from ⟨by
          have h := HRW.out
          have e : (orTs xs i).length = i := by simp [orTs]
          have h2 := flatTask.slice (B := 48) (base := w.heap.size) (e := 50) (v := .slice ra i rcc) (xs := orTs xs i) (by rw [e]; exact h) (by rw [e]; omega)
          exact h2, slice0 _ _ _ _⟩)
        have p0 := BlockIs.of HCB.out 0 _ rfl
        have p1 := BlockIs.of HCB.out 1 _ rfl
        have p2 := BlockIs.of HCB.out 2 _ rfl
        go_wp2_with fail
        refine (new_is 0 ⟨1, orTs xs i, []⟩ _ _ _ HP.out (or_new xs hi5)).mono ?_
        rintro e w3 ⟨b0, rfl, hl, hb⟩
        have HL3 := Lib.hid hl
        have HB3 := Lib.hid (bthen HB.out hb)
        have HC3 := Lib.hid (keep_at HCB.out hb)
        have HGL := Lib.hid (lt_of_block HCB.out)
        obtain ⟨lo, hlo⟩ : ∃ lo, lo = wr.heap.size := ⟨_, rfl⟩
        have HLO := Lib.hid (show w.heap.size ≤ lo by rw [hlo]; exact HB.out.size)
        rw [← hlo] at HL3 HGL
        have HTL := Lib.hid (show ∀ wx, Below lo w3 wx → wx.heap[gp]? = some (.cells #[.int .i64 1, .slice ra i rcc, .slice none 0 0] 25 (0, 0)) ∧ TasksV wx (.slice ra i rcc) (orTs xs i) from fun wx hbx => by
          refine ⟨(hbx.block _ HGL.out).trans HC3.out, ?_⟩
          have h := HRW.out
          have hw3 : w3.ownsRow w.heap.size 50 6 (.slice ra i rcc) i ((orTs xs i).flatMap taskCells) := Below.kept h hb
          have hwx : wx.ownsRow w.heap.size 50 6 (.slice ra i rcc) i ((orTs xs i).flatMap taskCells) := by
            refine ⟨hw3.1, ?_⟩
            rcases h.2 with q | ⟨g, cap, cur, h1, h2, h3, h4⟩
            · exact .inl q
            · rcases hw3.2 with q' | ⟨g', cap', cur', k1, k2, k3, k4⟩
              · exact .inl q'
              · refine .inr ⟨g', cap', cur', k1, k2, (hbx.block g' ?_).trans k3, k4⟩
                rw [h1] at k1
                injection k1 with k1 _ _
                injection k1 with k1
                injection k1 with k1
                rw [← k1, hlo]
                exact lt_of_block h3
          have e : (orTs xs i).length = i := by simp [orTs]
          exact flatTask.slice (B := 48) (base := w.heap.size) (e := 50) (v := .slice ra i rcc) (xs := orTs xs i) (by rw [e]; exact hwx) (by rw [e]; omega))
        have HLX := Lib.hid (show ∃ S : LSt, LocIs w3 b0 lo S (6 * ((0 : Nat) : Int)) ∧ OrI xs i d 0 S from ⟨_, HL3.out, or_start xs hi5 d⟩)
        clear hl hb hlo HP HCB HRW HB p0 p1 p2
        go_wp2_with (first | (go_at_call 12; refine (num_any _ _).mono ?_; rintro e w' ⟨rfl, hw⟩; subst w') | fail)
        go_loopw [10] (fun kv wr => ∃ (k : Nat) (S : LSt), k ≤ i ∧ kv = .int .i64 k ∧ Hid (LocIs wr b0 lo S (6 * (k : Int))) ∧ Hid (OrI xs i d k S) ∧ Hid (Below lo w3 wr)) (fun kv _ => i - (intOf kv).toNat)
        case atStart =>
          obtain ⟨S, h1, h2⟩ := HLX.out
          exact ⟨0, S, by omega, rfl, Lib.hid h1, Lib.hid h2, Lib.hid (Below.refl _ _)⟩
        case round =>
          clear HLX
          obtain ⟨k, S, hki, rfl, HL, HO, HB⟩ := hrel
          have p1 := BlockIs.of (HTL.out _ HB.out).1 1 _ rfl
          by_cases hlt : k < i
          · have c5 : (k : Int) < (i : Int) := by omega
            have hst := or_step hi5 (by have := HD.out; omega) (by have := HD.out; omega) hlt HO.out
            have HST := Lib.hid hst.2
            have HCK := Lib.hid (clockYes (x := (k : Int)) (by omega) (by omega))
            clear hst
            go_wp2_with fail
            refine (pick_is b0 lo S (6 * (k : Int)) k d k _ HL.out).mono ?_
            rintro e w4 ⟨ra4, rn4, rc4, rfl, hl, -, hk⟩
            have HL4 := Lib.hid hl
            have HB4 := Lib.hid (HB.out.trans hk.below)
            clear hl hk p1 HL HB
            go_wp2_with fail
            refine (begin_is b0 lo _ (6 * (k : Int)) k _ HL4.out (by omega) HCK.out).mono ?_
            rintro e w5 ⟨ra5, rn5, rc5, rfl, hl, -, hk⟩
            obtain ⟨S5, hS5⟩ : ∃ S5, S5 = begS (pickSt S k d k) k := ⟨_, rfl⟩
            rw [← hS5] at hl HST
            have HL5 := Lib.hid (show LocIs w5 b0 lo S5 (6 * ((k + 1 : Nat) : Int)) by rw [show (6 * ((k + 1 : Nat) : Int)) = 6 * (k : Int) + 6 by omega]; exact hl)
            have HB5 := Lib.hid (HB4.out.trans hk.below)
            clear hl hk hS5 HL4 HB4
            go_wp2_with fail
            refine (jobs_is b0 lo S5 _ _ HL5.out).mono ?_
            rintro e w6 ⟨jv, rfl, hj, hb⟩
            obtain ⟨ja, jc, hjv⟩ := own_shape hj
            rw [HST.out.js] at hjv
            subst hjv
            have HL6 := Lib.hid (HL5.out.keep hb)
            have HB6 := Lib.hid (HB5.out.trans (hb.mono HL5.out.lo))
            have HJV := Lib.hid (JobRow.jobs hj (by rw [HST.out.js]; omega))
            obtain ⟨j0, jr, hjs⟩ : ∃ j r, S5.js = j :: r := by
              cases h : S5.js with
              | nil => have := HST.out.js; rw [h] at this; simp at this
              | cons a r => exact ⟨a, r, rfl⟩
            obtain ⟨jb, jo, ej, HJ0⟩ : ∃ q' o, Value.slice ja (k + 1) jc = .slice (some ⟨q', o, none⟩) (k + 1) jc ∧ Hid (JobAt w6 q' o j0) := by
              obtain ⟨a, cc, e, -, -, -, hq⟩ := HJV.out
              obtain ⟨q', o, e2, hq2⟩ := hq (by rw [hjs]; simp)
              injection e with e _ _
              refine ⟨q', o, by rw [e, e2], Lib.hid ?_⟩
              have := hq2 0 (by rw [hjs]; simp)
              simpa [hjs] using this
            injection ej with ej _ _
            subst ej
            have HLE := Lib.hid (show ∀ j : Nat, j < k + 1 → j0.prio ≤ orPr xs j from fun j hj => head_le HST.out.may hjs _ (HST.out.all j hj))
            have cw : IntKind.i64.wrap ((k : Int) + 1) = (k : Int) + 1 := by rw [IntKind.wrap_i64]; omega
            have cz : (0 : Int) < (k : Int) + 1 := by omega
            have cz2 : 0 < k + 1 := by omega
            clear hj hb hjs HL5 HB5 HJV
            go_wp2_with fail
            go_loopw [12] (fun kv wr => ∃ z : Nat, z ≤ k + 1 ∧ kv = .int .i64 z ∧ Hid (Below w6.heap.size w6 wr)) (fun kv _ => k + 1 - (intOf kv).toNat)
            case atStart => exact ⟨0, by omega, rfl, Lib.hid (Below.refl _ _)⟩
            case round =>
              obtain ⟨z, hz, rfl, HZ⟩ := hrel
              by_cases hzk : z ≤ k
              · have c6 : (z : Int) ≤ (k : Int) := by omega
                have c7 : (z : Int) < (i : Int) := by omega
                have c7n : z < i := by omega
                have hbz := HB6.out.trans (HZ.out.mono HL6.out.lo)
                obtain ⟨hgc, htv⟩ := HTL.out _ hbz
                have p1 := BlockIs.of hgc 1 _ rfl
                have hzt : z < (orTs xs i).length := by simp [orTs]; omega
                obtain ⟨tb, toff, et, t5⟩ : ∃ q' o, Value.slice ra i rcc = .slice (some ⟨q', o, none⟩) i rcc ∧ wr.cell? ⟨q', o + z * 6 + 5, none⟩ = some (.int .i64 (orPr xs z)) := by
                  obtain ⟨a, cc, e, -, -, -, hq⟩ := htv
                  obtain ⟨q', o, e2, hq2⟩ := hq (by intro h; rw [h] at hzt; simp at hzt)
                  injection e with e _ _
                  refine ⟨q', o, by rw [e, e2], ?_⟩
                  have h5 := (hq2 z hzt).2.2.2.2.2
                  have e6 : (orTs xs i)[z].prio = orPr xs z := by simp [orTs, orT]
                  unfold IntAt at h5
                  rw [e6] at h5
                  exact h5
                injection et with et _ _
                subst et
                obtain ⟨-, -, y2, -, -, -, -⟩ := HJ0.out.ext (Ext.below HZ.out)
                unfold IntAt at y2
                have hle := HLE.out z (by omega)
                obtain ⟨pz, hpz⟩ : ∃ pz, pz = orPr xs z := ⟨_, rfl⟩
                rw [← hpz] at t5 hle
                obtain ⟨p0, hp0⟩ : ∃ p0, p0 = j0.prio := ⟨_, rfl⟩
                rw [← hp0] at y2 hle
                have c8 : ¬ pz < p0 := by omega
                clear hgc htv hpz hp0 hbz hle
                go_wp2_with fail
                go_quiet (fail)
                go_wp2_with fail
                go_roundw
                case rel => exact ⟨z + 1, by omega, by go_num, Lib.hid (below_drewN HZ.out _)⟩
                case measure => simp [intOf]; omega
              · obtain rfl : z = k + 1 := by omega
                have HL7 := Lib.hid (HL6.out.keep HZ.out)
                have HB7 := Lib.hid (HB6.out.trans (HZ.out.mono HL6.out.lo))
                go_wp2_with fail
                go_roundw
                case rel => exact ⟨k + 1, S5, by omega, by go_num, HL7, HST, HB7⟩
                case measure => simp [intOf]; omega
          · obtain rfl : k = i := by omega
            have HRX := Lib.hid (or_run0 HO.out)
            clear HO
            go_wp2_with fail
            go_loopw [13, 14] (fun lv kv wr => ∃ (t : Nat) (last : Int) (S : LSt), (t : Int) ≤ 5 * (d : Int) ∧ lv = .int .i64 last ∧ kv = .int .i64 t ∧ Hid (LocIs wr b0 lo S (6 * (k : Int))) ∧ Hid (OrR xs k d t last S) ∧ Hid (Below lo w3 wr)) (fun _ kv _ => 5 * d + 1 - (intOf kv).toNat)
            case atStart => exact ⟨0, -1, S, by omega, rfl, rfl, HL, HRX, HB⟩
            case round =>
              clear HRX HL HB p1
              obtain ⟨t, last, S, ht, rfl, rfl, HL, HR, HB⟩ := hrel
              have hd4 := HD.out
              have cm : IntKind.i64.wrap (5 * (d : Int)) = 5 * (d : Int) := by rw [IntKind.wrap_i64]; omega
              by_cases htd : (t : Int) < 5 * (d : Int)
              · cases hjs : S.js with
                | nil =>
                  have HJS := Lib.hid hjs
                  clear hjs
                  go_wp2_with fail
                  refine (ready_is b0 lo S _ _ HL.out).mono ?_
                  rw [HJS.out]
                  rintro e w' ⟨rfl, hw⟩
                  subst w'
                  go_wp2_with fail
                  refine (ready_is b0 lo S _ _ HL.out).mono ?_
                  rw [HJS.out]
                  rintro e w' ⟨rfl, hw⟩
                  subst w'
                  go_wp2_with fail
                  go_ret
                  exact ⟨rfl, HB3.out.trans (HB.out.mono HLO.out)⟩
                | cons j0 jr =>
                  have HJS := Lib.hid hjs
                  have HGO := Lib.hid (or_go (by have := HD.out; omega) (by have := HD.out; omega) HR.out hjs)
                  clear hjs
                  go_wp2_with fail
                  refine (ready_is b0 lo S _ _ HL.out).mono ?_
                  rw [show decide (0 < S.js.length) = true by rw [HJS.out]; simp]
                  rintro e w' ⟨rfl, hw⟩
                  subst w'
                  go_wp2_with fail
                  refine (jobs_is b0 lo S _ _ HL.out).mono ?_
                  rintro e w6 ⟨jv, rfl, hj, hb⟩
                  have HL6 := Lib.hid (HL.out.keep hb)
                  have HB6 := Lib.hid (HB.out.trans (hb.mono HL.out.lo))
                  have hm16 := ((jobsMay_iff _).1 HL.out.wf.js).2
                  obtain ⟨jn, hjn⟩ : ∃ n, n = S.js.length := ⟨_, rfl⟩
                  have hjn1 : 1 ≤ jn := by rw [hjn, HJS.out]; simp
                  obtain ⟨jb, jo, jc, ej, y2⟩ : ∃ q' o c, jv = .slice (some ⟨q', o, none⟩) jn c ∧ w6.cell? ⟨q', o + 2, none⟩ = some (.int .i64 j0.prio) := by
                    obtain ⟨a, cc, e, -, -, -, hq⟩ := JobRow.jobs hj (by omega)
                    obtain ⟨q', o, e2, hq2⟩ := hq (by rw [HJS.out]; simp)
                    refine ⟨q', o, cc, by rw [e, e2, hjn], ?_⟩
                    have h2 := (hq2 0 (by rw [HJS.out]; simp)).2.2.1
                    unfold IntAt at h2
                    simpa [HJS.out] using h2
                  subst ej
                  have c9 : ¬ j0.prio < last := by have := HGO.out.1; omega
                  have c10 : ((jn : Int) == 0) = false := by rw [beq_eq_false_iff_ne]; omega
                  have c11 : (0 : Int) < (jn : Int) := by omega
                  have c12 : 0 < jn := by omega
                  clear hj hb hjn hm16 HL HB
                  go_wp2_with fail
                  refine (run_is b0 lo S _ _ HL6.out).mono ?_
                  rintro e w7 ⟨ra7, rn7, rc7, rfl, hl, -, hk⟩
                  have HL7 := Lib.hid hl
                  have HB7 := Lib.hid (HB6.out.trans hk.below)
                  clear hl hk y2
                  go_wp2_with fail
                  go_roundw
                  case rel => exact ⟨t + 1, j0.prio, runS S, by omega, rfl, by go_num, HL7, Lib.hid (by have h := HGO.out.2; rw [show ((t : Int) + 1) = ((t + 1 : Nat) : Int) by omega] at h; exact h), HB7⟩
                  case measure => simp [intOf]; omega
              · have HJS := Lib.hid (or_end hi5 (by have := HD.out; omega) HR.out (by omega))
                go_wp2_with fail
                refine (ready_is b0 lo S _ _ HL.out).mono ?_
                rw [HJS.out]
                rintro e w' ⟨rfl, hw⟩
                subst w'
                go_wp2_with fail
                go_ret
                exact ⟨rfl, HB3.out.trans (HB.out.mono HLO.out)⟩
end Go.Proofs.Ytbkhnlacabaagaa
