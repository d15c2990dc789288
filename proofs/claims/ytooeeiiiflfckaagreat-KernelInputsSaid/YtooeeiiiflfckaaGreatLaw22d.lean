/- Chapter 22's law KernelInputs (printed by gen22d.py). -/
import Derived.Test.YtooeeiiiflfckaaGreatLaw22a
import Derived.Test.YtooeeiiiflfckaaGreatLawC
import Derived.Test.YtooeeiiiflfckaaGreatInpP
set_option linter.unusedVariables false
set_option linter.unusedSimpArgs false
namespace Go.Proofs.YtooeeiiiflfckaaGreat
open Go.RowKit
theorem flatInt_one (xs : List Int) : ∀ u ∈ xs.flatMap intCell, u.oneCell' = true := by
 intro u hu
 obtain ⟨x, -, hx⟩ := List.mem_flatMap.1 hu
 simp [intCell] at hx
 subst hx
 rfl
theorem src_drop1 {w : World} {g o n cap : Nat} {es : List Int} (h : IntsV w (.slice (some ⟨g, o, none⟩) n cap) es) (hn : 1 <= es.length) : Src w (.slice (some ⟨g, o + 1, none⟩) (n - 1) (cap - 1)) (n - 1) ((es.drop 1).flatMap intCell) := by
 refine .inr ⟨_, _, rfl, fun j u hu => ?_⟩
 have hj : j < (es.drop 1).length := by
  have := (List.getElem?_eq_some_iff.1 hu).1
  rw [flat_len intCell 1 (fun _ => rfl)] at this
  omega
 have hg := flat_get intCell 1 (fun _ => rfl) (es.drop 1) j hj 0 (by decide)
 rw [Nat.mul_one, Nat.add_zero, hu] at hg
 rw [List.length_drop] at hj
 obtain ⟨b, off, c, e, hy⟩ := h.get (k := j + 1) (by omega)
 injection e with e _ _
 injection e with e
 injection e with e1 e2
 subst e1; subst e2
 unfold IntAt at hy
 rw [addr_add]
 simp only [List.getElem_drop, intCell, List.getElem?_cons_zero] at hg
 injection hg with hg
 rw [hg]
 have e1 : 1 + j = j + 1 := by omega
 have e2 : o + (j + 1) = o + 1 + j := by omega
 rw [e2] at hy
 simpa [e1] using hy
def inW (xs : List Int) (k : Nat) : List Int := (xs.take k).map (fun x => x % 65536)
theorem inW_word (xs : List Int) (k : Nat) : inWord (inW xs k) := by
 intro x hx
 unfold inW at hx
 obtain ⟨y, -, rfl⟩ := List.mem_map.1 hx
 omega
theorem inR_len (ws : List Int) : (inR ws).length <= 16 := by
 have : ∀ q : List Int, q.length <= 16 -> (ws.foldl (pushQ 16) q).length <= 16 := by
  induction ws with
  | nil => intro q h; exact h
  | cons x r ih =>
   intro q h
   refine ih _ ?_
   unfold pushQ
   split
   ·simp; omega
   ·simp; omega
 exact this [] (by simp)
set_option maxRecDepth 100000 in
set_option maxHeartbeats 16000000 in
theorem kernelInputs_any (xs : List Int) (v : Value) (w : World) (hv : IntsV w v xs) : Calls Tryz.prog 8 #[v] w fun e w' => e = .returned (.bool true) /\ Below w.heap.size w w' := by
 have HV := Lib.hid hv
 obtain ⟨va, vc, rfl, hz1, hz2, hz3, -⟩ := id hv
 obtain ⟨n, hn⟩ : ∃ n, n = xs.length := ⟨_, rfl⟩
 rw [<- hn] at HV |-
 have hnb : n <= 1000000000000000000 := by omega
 have HN := Lib.hid hn
 clear hv hz1 hz2 hz3 hn
 have HL := Lib.hid (LawAt.start w)
 go_enter Tryz.func8, Tryz.ntmps8
 go_wp2_with (go_at_call 17; refine num_at ?_)
 refine (awake22 _).mono ?_
 rintro e w1 ⟨rfl, hb⟩
 replace HL := Lib.hid (HL.out.grow hb)
 clear hb
 obtain ⟨w2, g2, hw_w2, hg_g2, hb_w2, hk_g2, hs_w2⟩ := alloc_all w1 (.cells #[.int .i64 0, .int .i64 30, .int .i64 30, .int .i64 20, .int .i64 20, .int .i64 0] 51)
 replace HL := Lib.hid (HL.out.alloc hb_w2 (by omega) hk_g2)
 obtain ⟨w3, g3, hw_w3, hg_g3, hb_w3, hk_g3, hs_w3⟩ := alloc_all w2 (.cells #[.int .i64 8, .int .i64 0] 66)
 replace HL := Lib.hid (HL.out.alloc hb_w3 (by omega) hk_g3)
 obtain ⟨w4, g4, hw_w4, hg_g4, hb_w4, hk_g4, hs_w4⟩ := alloc_all w3 (.cells #[.int .i64 1, .slice (some ⟨g2, 0, none⟩) 1 1, .slice (some ⟨g3, 0, none⟩) 1 1] 49)
 replace HL := Lib.hid (HL.out.alloc hb_w4 (by omega) hk_g4)
 obtain ⟨w5, g5, hw_w5, hg_g5, hb_w5, hk_g5, hs_w5⟩ := alloc_all w4 (.cells #[.int .i64 0, .int .i64 30, .int .i64 0] 61)
 replace HL := Lib.hid (HL.out.alloc hb_w5 (by omega) hk_g5)
 obtain ⟨w6, g6, hw_w6, hg_g6, hb_w6, hk_g6, hs_w6⟩ := alloc_all w5 (.cells #[.int .i64 30, .int .i64 1, .slice (some ⟨g4, 0, none⟩) 1 1, .slice (some ⟨g5, 0, none⟩) 1 1, .slice none 0 0] 26)
 replace HL := Lib.hid (HL.out.alloc hb_w6 (by omega) hk_g6)
 clear hb_w2 hk_g2 hb_w3 hk_g3 hb_w4 hk_g4 hb_w5 hk_g5 hb_w6 hk_g6
 have HC := Lib.hid (show CfgV w6 (.agg #[.int .i64 30, .int .i64 1, .slice (some ⟨g4, 0, none⟩) 1 1, .slice (some ⟨g5, 0, none⟩) 1 1, .slice none 0 0]) inCfg from ⟨_, _, _, rfl, ⟨slice1 (by decide) (part_blk (HL.out.box _ (List.mem_cons_of_mem _ (List.mem_cons_of_mem _ (List.mem_cons_self ..)))).1 0 ⟨1, [⟨0, 30, 30, 20, 20, 0⟩], [⟨8, 0⟩]⟩ rfl rfl rfl (tasks_blk [⟨0, 30, 30, 20, 20, 0⟩] (HL.out.box _ (List.mem_cons_of_mem _ (List.mem_cons_of_mem _ (List.mem_cons_of_mem _ (List.mem_cons_of_mem _ (List.mem_cons_self ..)))))).1 (by decide)) (code_blk [⟨8, 0⟩] (HL.out.box _ (List.mem_cons_of_mem _ (List.mem_cons_of_mem _ (List.mem_cons_of_mem _ (List.mem_cons_self ..))))).1 (by decide))), windows_blk [⟨0, 30, 0⟩] (HL.out.box _ (List.mem_cons_of_mem _ (List.mem_cons_self ..))).1 (by decide), slice0 _ _ _ _⟩⟩)
 have y0 := BlockIs.of (HL.out.box _ (List.mem_cons_self ..)).1 0 (.int .i64 30) rfl
 have y1 := BlockIs.of (HL.out.box _ (List.mem_cons_self ..)).1 1 (.int .i64 1) rfl
 have y2 := BlockIs.of (HL.out.box _ (List.mem_cons_self ..)).1 2 (.slice (some ⟨g4, 0, none⟩) 1 1) rfl
 have y3 := BlockIs.of (HL.out.box _ (List.mem_cons_self ..)).1 3 (.slice (some ⟨g5, 0, none⟩) 1 1) rfl
 have y4 := BlockIs.of (HL.out.box _ (List.mem_cons_self ..)).1 4 (.slice none 0 0) rfl
 go_upto_region 4 with (fail)
 rw [<- hw_w2]
 (try rw [<- hs_w2])
 (try rw [<- hg_g2])
 rw [<- hw_w3]
 (try rw [<- hs_w3])
 (try rw [<- hg_g3])
 rw [<- hw_w4]
 (try rw [<- hs_w4])
 (try rw [<- hg_g4])
 rw [<- hw_w5]
 (try rw [<- hs_w5])
 (try rw [<- hg_g5])
 rw [<- hw_w6]
 (try rw [<- hs_w6])
 (try rw [<- hg_g6])
 clear hw_w2 hg_g2 hs_w2 hw_w3 hg_g3 hs_w3 hw_w4 hg_g4 hs_w4 hw_w5 hg_g5 hs_w5 hw_w6 hg_g6 hs_w6
 go_wp2_with (go_at_call 17; refine num_at ?_)
 refine (HL.out.callNew inCfg _ 0 HC.out in_admit (by decide)).mono ?_
 rintro e w7 ⟨Y, G, rfl, hl⟩
 replace HL := Lib.hid (hl)
 clear hl HC y0 y1 y2 y3 y4
 replace HL := Lib.hid (HL.out.nobox)
 go_wp2_with (go_at_call 17; refine num_at ?_)
 go_loopw [6, 7, 8] (fun ev rv iv wr => ∃ (k : Nat) (ea : Option Addr) (ec : Nat) (ra : Option Addr) (rl rc : Nat), k <= n /\ k <= 40 /\ iv = .int .i64 k /\ ev = .slice ea k ec /\ rv = .slice ra rl rc /\ rl = (inR (inW xs k)).length /\ Hid (LawAt w wr [⟨Y, newK inCfg 0, G, 0⟩] [] [⟨38, 5, .slice ea k ec, k, (inE (inW xs k)).flatMap entCells⟩, ⟨3, 1, .slice ra rl rc, rl, (inR (inW xs k)).flatMap intCell⟩])) (fun _ _ iv _ => n - (intOf iv).toNat)
 case atStart => exact ⟨0, none, 0, none, 0, 0, by omega, by omega, rfl, rfl, rfl, by simp [inW, inR], Lib.hid ((HL.out.nilRow 3 1).nilRow 38 5)⟩
 case round =>
  clear HL
  obtain ⟨k, ea, ec, ra, rl, rc, hk, hk2, rfl, rfl, rfl, hrl, HL⟩ := hrel
  have HRL := Lib.hid hrl
  clear hrl
  by_cases hgo : k < n /\ k < 40
  ·skip
   have hrl16 : rl <= 16 := by rw [HRL.out]; exact inR_len _
   have c1 : (k : Int) < (n : Int) := by omega
   have c2 : (k : Int) < 40 := by omega
   have c1n : k < n := hgo.1
   have hxl : k < xs.length := by rw [<- HN.out]; exact hgo.1
   obtain ⟨x, hx⟩ : ∃ x, x = xs[k] := ⟨_, rfl⟩
   obtain ⟨xb, xo, xc, ec2, HZ0⟩ : ∃ q off c, Value.slice va n vc = .slice (some ⟨q, off, none⟩) n c /\ Hid (IntAt w q (off + k) x) := by
    obtain ⟨b, off, cap, e, hc⟩ := HV.out.get hxl
    injection e with e _ e3
    exact ⟨b, off, cap, by rw [e, e3], Lib.hid (by rw [hx]; exact hc)⟩
   injection ec2 with ec2 _ ec3
   subst ec2
   subst ec3
   unfold IntAt at HZ0
   have z0 := Ext.below HL.out.below _ _ HZ0.out
   obtain ⟨y, hy⟩ := Int.eq_ofNat_of_zero_le (show 0 <= bits BinOp.and IntKind.i64 x 65535 by rw [i64_and65535]; omega)
   have HSN := Lib.hid (show inW xs (k + 1) = inW xs k ++ [(y : Int)] by
    unfold inW
    rw [List.take_add_one, List.getElem?_eq_getElem hxl, <- hx, <- hy, i64_and65535]
    simp)
   clear hx
   go_wp2_with (first | (go_at_call 17; refine num_at ?_) | (at_builtin; refine append_elem_at rfl (.tmp 54) (.tmp 57) 27 rfl w.heap.size 38 _ 5 40 Tryz.underlying27 infoEntry rfl (by decide) (.slice ea k ec) k _ rfl HL.out.row0 (entCells ⟨0, 1, 0, 0, (y : Int)⟩) wr.heap.size rfl rfl rfl rfl (by omega) (by omega) HL.out.below.size ?_))
   intro v2 w2 hown hbel hg hat
   replace HL := Lib.hid (HL.out.onto hown hg (by simpa using hat))
   obtain ⟨ea2, ec2, rfl⟩ := own_shape hown
   replace HL := Lib.hid HL.out.rot
   clear hown hbel hg hat z0
   go_wp2_with (first | (go_at_call 17; refine num_at ?_) | (at_builtin; refine append_elem_at rfl (.tmp 59) (.tmp 61) 75 rfl w.heap.size 3 _ 1 8 Tryz.underlying75 infoInt rfl (by decide) (.slice ra rl rc) rl _ rfl HL.out.row0 (intCell (y : Int)) w2.heap.size rfl rfl rfl rfl (by omega) (by omega) HL.out.below.size ?_))
   intro v3 w3 hown hbel hg hat
   replace HL := Lib.hid (HL.out.onto hown hg (by simpa using hat))
   obtain ⟨ra2, rc2, rfl⟩ := own_shape hown
   clear hown hbel hg hat
   have hrl := HRL.out
   by_cases hq : rl = 16
   ·skip
    subst hq
    obtain ⟨R, hR⟩ : ∃ R, R = inR (inW xs k) := ⟨_, rfl⟩
    rw [<- hR] at HL hrl
    have hro : IntRow w3 w.heap.size (.slice ra2 17 rc2) (R ++ [(y : Int)]) := by
     have := HL.out.row0
     unfold IntRow
     rw [List.flatMap_append, List.length_append, <- hrl]
     simpa using this
    have hl4 : (R ++ [(y : Int)]).length = 17 := by simp [<- hrl]
    obtain ⟨g4, c4, e4, -, hnc, hcm⟩ := ownsRow_some HL.out.row0 (by omega)
    injection e4 with e4 _ e5
    subst e4
    subst e5
    have HSRC := Lib.hid (src_drop1 (w := w3.alloc (.cells #[] 3)) (IntsV.ext (Ext.alloc w3 _) (IntRow.ints hro (by rw [hl4]; decide))) (by rw [hl4]; decide))
    have HNX := Lib.hid (show inR (inW xs (k + 1)) = R.tail ++ [(y : Int)] by rw [HSN.out, inR_snoc, <- hR]; unfold pushQ; rw [if_pos hrl.symm])
    have d1 : ¬ rc2 = 1 := by omega
    have d0 : (17 : Nat) <= rc2 := hnc
    have hdl : ((R ++ [(y : Int)]).drop 1).length = 16 := by rw [List.length_drop, hl4]
    have HE := Lib.hid hR
    have HRX := Lib.hid hrl
    clear hro hnc hcm hR hrl
    go_wp2_with (at_builtin; refine wpList_onto _ rfl (.tmp 66) (.tmp 68) 75 rfl w3.heap.size 3 _ 1 8 Tryz.underlying75 infoInt rfl (by decide) (.slice (some ⟨w3.heap.size, 0, none⟩) 0 0) 0 [] rfl (own_lit w3 _ _) 16 _ HSRC.out (by rw [flat_len intCell 1 (fun _ => rfl), hdl]) (fun u hu => flatInt_one _ u hu) (by simp only [maxLen]; omega) (by omega) (by simp) ?_)
    intro v5 w5 hown hg
    have hb5 : Below w3.heap.size w3 w5 := (balloc w3 (.cells #[] 3)).grown hg (by simp) (fun k hk => by simp [Value.ownBlock] at hk; omega)
    replace HL := Lib.hid ((HL.out.less (rs' := [⟨38, 5, .slice ea2 (k + 1) ec2, k + 1, _⟩]) (List.Sublist.refl _) (List.sublist_cons_self _ _)).addRow hb5 (r := ⟨3, 1, v5, 16, ((R ++ [(y : Int)]).drop 1).flatMap intCell⟩) (by simpa using hown))
    obtain ⟨va5, vc5, rfl⟩ := own_shape hown
    replace HL := Lib.hid HL.out.rot
    have HL2 : Hid (LawAt w w5 [⟨Y, newK inCfg 0, G, 0⟩] [] [⟨38, 5, .slice ea2 (k + 1) ec2, k + 1, (inE (inW xs (k + 1))).flatMap entCells⟩, ⟨3, 1, .slice va5 16 vc5, 16, (inR (inW xs (k + 1))).flatMap intCell⟩]) := Lib.hid (by
     have q1 : (inE (inW xs (k + 1))).flatMap entCells = (inE (inW xs k)).flatMap entCells ++ entCells ⟨0, 1, 0, 0, (y : Int)⟩ := by rw [HSN.out]; simp [inE]
     have q2 : (inR (inW xs (k + 1))).flatMap intCell = ((R ++ [(y : Int)]).drop 1).flatMap intCell := by
      have hne : R ≠ [] := fun e => by have := HRX.out; rw [e] at this; cases this
      rw [HNX.out, List.drop_one, List.tail_append_of_ne_nil hne]
     rw [q1, q2]
     exact HL.out)
    clear hown hg hb5 HL
    go_wp2_with (go_at_call 17; refine num_at ?_)
    go_roundw
    case rel => exact ⟨k + 1, ea2, ec2, va5, 16, vc5, by omega, by omega, by go_num, rfl, rfl, by rw [HNX.out]; simp [<- HRX.out], HL2⟩
    case measure => simp [intOf]; omega
   ·skip
    have HNX := Lib.hid (show inR (inW xs (k + 1)) = inR (inW xs k) ++ [(y : Int)] by rw [HSN.out, inR_snoc]; unfold pushQ; rw [if_neg (by rw [<- hrl]; exact hq)])
    have hr16 : rl <= 16 := by rw [hrl]; exact inR_len _
    clear hrl
    have d1 : ¬ (rl : Int) + 1 > 16 := by omega
    have d1b : ¬ rl + 1 > 16 := by omega
    have d2 : ¬ (16 : Int) < (rl : Int) + 1 := by omega
    replace HL := Lib.hid HL.out.rot
    have HL2 : Hid (LawAt w w3 [⟨Y, newK inCfg 0, G, 0⟩] [] [⟨38, 5, .slice ea2 (k + 1) ec2, k + 1, (inE (inW xs (k + 1))).flatMap entCells⟩, ⟨3, 1, .slice ra2 (rl + 1) rc2, rl + 1, (inR (inW xs (k + 1))).flatMap intCell⟩]) := Lib.hid (by
     have q1 : (inE (inW xs (k + 1))).flatMap entCells = (inE (inW xs k)).flatMap entCells ++ entCells ⟨0, 1, 0, 0, (y : Int)⟩ := by rw [HSN.out]; simp [inE]
     have q2 : (inR (inW xs (k + 1))).flatMap intCell = (inR (inW xs k)).flatMap intCell ++ intCell (y : Int) := by rw [HNX.out]; simp
     rw [q1, q2]
     exact HL.out)
    clear HL
    go_wp2_with (go_at_call 17; refine num_at ?_)
    go_roundw
    case rel => exact ⟨k + 1, ea2, ec2, ra2, rl + 1, rc2, by omega, by omega, by go_num, rfl, rfl, by rw [HNX.out, List.length_append, <- HRL.out]; rfl, HL2⟩
    case measure => simp [intOf]; omega
  ·have hst : ¬ (k : Int) < (n : Int) ∨ (k : Int) < (n : Int) /\ ¬ (k : Int) < 40 := by omega
   clear hgo
   rcases hst with c1 | ⟨c1, c2⟩
   all_goals
    have hrl := HRL.out
    obtain ⟨ws, hws⟩ : ∃ ws, ws = inW xs k := ⟨_, rfl⟩
    have hwl : ws.length = k := by have := HN.out; rw [hws]; unfold inW; simp; omega
    have HWS := Lib.hid (show rl = (inR ws).length /\ inWord ws /\ ws.length <= 40 from ⟨by rw [hws]; exact hrl, by rw [hws]; exact inW_word _ _, by omega⟩)
    have HEL := Lib.hid (show k = (inE ws).length by unfold inE; simp; omega)
    rw [<- hws] at HL
    replace HL := Lib.hid (show LawAt w wr [⟨Y, inK ws 0, G, 48 * ((0 : Nat) : Int)⟩] [] [⟨38, 5, .slice ea k ec, k, (inE (ws)).flatMap entCells⟩, ⟨3, 1, .slice ra rl rc, rl, (inR (ws)).flatMap intCell⟩] from HL.out)
    clear hws hwl hrl
    go_wp2_with fail
    go_loopw [10] (fun iv wr => ∃ (i : Nat) (G : Nat -> Prop), i <= 20 /\ iv = .int .i64 i /\ Hid (LawAt w wr [⟨Y, inK ws i, G, 48 * i⟩] [] [⟨38, 5, .slice ea k ec, k, (inE (ws)).flatMap entCells⟩, ⟨3, 1, .slice ra rl rc, rl, (inR (ws)).flatMap intCell⟩])) (fun iv _ => 20 - (intOf iv).toNat)
    case atStart => exact ⟨0, G, by omega, rfl, HL⟩
    case round =>
     clear HL
     obtain ⟨i, G, hi, rfl, HL⟩ := hrel
     by_cases hi2 : i < 20
     ·skip
      have hik : (i : Int) < 20 := by omega
      obtain ⟨a1, a2, a3⟩ := in_acc HWS.out.2.2 HWS.out.2.1 hi2
      have HA := Lib.hid a1
      go_wp2_with (go_at_call 17; refine num_at ?_)
      refine (HL.out.tick (by omega) (inE ws) _ (HL.out.entries HEL.out (by have := HWS.out.2.2; simp only [inE, List.length_map]; omega)) (HL.out.offRow (List.mem_cons_self ..))).mono ?_
      rw [show tickE (inK ws i) (inE ws) = 0 from a3]
      rintro e w61 ⟨sa, sn, sc, G2, rfl, hn, hl⟩
      replace HL := Lib.hid (hl)
      replace HL := Lib.hid (HL.out.less (List.Sublist.refl _) (List.sublist_cons_self _ _))
      clear hl hn
      obtain ⟨rt, ro, rd, rm, hrow⟩ : ∃ rt ro rd rm, krowV (tickK (inK ws i) (inE ws)).2 (.slice sa sn sc) = .agg #[.int .i64 rt, .int .i64 ro, .bool rd, .int .i64 rm, .slice sa sn sc] := ⟨_, _, _, _, rfl⟩
      rw [hrow]
      clear hrow
      obtain ⟨w62, g62, hw_w62, hg_g62, hb_w62, hk_g62, hs_w62⟩ := alloc_all w61 (.cells #[.int .i64 rt, .int .i64 ro, .bool rd, .int .i64 rm, .slice sa sn sc] 41)
      replace HL := Lib.hid (HL.out.alloc hb_w62 (by omega) hk_g62)
      clear hb_w62 hk_g62 hs_w62
      go_wp2_with (go_at_call 17; refine num_at ?_)
      rw [<- hw_w62, <- hg_g62]
      clear hw_w62 hg_g62
      refine (HL.out.callVm 0).mono ?_
      rintro e w63 ⟨⟨vm, er, rfl, hv1, -, hm⟩, hl⟩
      replace HL := Lib.hid (hl)
      obtain ⟨hv, rfl⟩ := hv1 ⟨by decide, by show (0 : Int) < ((inK ws (i + 1)).seats.length : Int); rw [a2]; decide⟩
      have HVA := Lib.hid (show vm.acc = (inR ws).getD i 0 by rw [hv]; exact a1)
      have HM := Lib.hid hm
      clear hv hv1 hm hl a1 a2 a3
      obtain ⟨wx, g70, hw_wx, hg_g70, hb_wx, hk_g70, hs_wx⟩ := alloc_all w63 (.cells #[.int .i64 0, .int .i64 0, .int .i64 0, .int .i64 0, .int .i64 0, .int .i64 0, .int .i64 0, .int .i64 0, .int .i64 0, .int .i64 0, .int .i64 0, .int .i64 0, .int .i64 0, .int .i64 0, .int .i64 0, .int .i64 0, .int .i64 0, .int .i64 0] 69)
      obtain ⟨w70, hw_w70⟩ : ∃ w70, w70 = wx.setRow g70 (vmCells vm).toArray := ⟨_, rfl⟩
      have hkz : w70.heap[g70]? = some (.cells (vmCells vm).toArray 69 (0, 0)) := by rw [hw_w70]; exact setRow_heap _ _ _ _ _ _ hk_g70
      have hgz := setRow_grown wx g70 (vmCells vm).toArray
      rw [<- hw_w70] at hgz
      have HKX := Lib.hid hk_g70
      replace HL := Lib.hid (HL.out.alloc (bput hb_wx hgz (by omega) (Nat.le_refl _)) (by omega) hkz)
      have x1 := BlockIs.of hkz 1 (.int .i64 vm.acc) rfl
      rw [HVA.out] at x1
      clear hkz hgz hb_wx hk_g70
      have HL2 := Lib.hid (show LawAt w w70 [⟨Y, inK ws (i + 1), G2, 48 * ((i + 1 : Nat) : Int)⟩] [] [⟨38, 5, .slice ea k ec, k, (inE (ws)).flatMap entCells⟩, ⟨3, 1, .slice ra rl rc, rl, (inR (ws)).flatMap intCell⟩] from by have := HL.out.nobox; exact (show (48 * (i : Int) + 48) = 48 * ((i + 1 : Nat) : Int) by omega) ▸ this)
      clear HL
      by_cases hir : i < rl
      ·skip
       have d1 : (i : Int) < (rl : Int) := by omega
       have hil : i < (inR ws).length := by rw [<- HWS.out.1]; exact hir
       have hrow2 := (HL2.out.row _ (List.mem_cons_of_mem _ (List.mem_cons_self ..))).1
       simp only at hrow2
       obtain ⟨rb, ro2, rc3, e, z0⟩ := (IntRow.ints (show IntRow w70 w.heap.size (.slice ra rl rc) (inR ws) by unfold IntRow; rw [<- HWS.out.1]; exact hrow2) (by rw [<- HWS.out.1]; have := inR_len ws; have := HWS.out.1; omega)).get hil
       rw [<- HWS.out.1] at e
       injection e with e _ e2
       subst e
       subst e2
       unfold IntAt at z0
       rw [show (inR ws).getD i 0 = (inR ws)[i] by rw [List.getD_eq_getElem?_getD, List.getElem?_eq_getElem hil]; rfl] at x1
       obtain ⟨q, hq⟩ : ∃ q, q = (inR ws)[i] := ⟨_, rfl⟩
       rw [<- hq] at z0 x1
       clear hrow2 hq
       go_wp2_with (first | (go_at_call 17; refine num_at ?_) | (rw [<- hw_wx, <- hg_g70]; clear hw_wx hg_g70; refine wpList_store_row rfl 69 _ _ rfl g70 (vmCells vm).toArray rfl rfl _ _ HKX.out (by rw [vmSize HM.out]; kernel_rfl) (by rw [vmSize HM.out]; rfl) (vm_one vm) ?_; rw [<- hw_w70]; clear hw_w70))
       go_roundw
       case rel => exact ⟨i + 1, G2, by omega, by go_num, HL2⟩
       case measure => simp [intOf]; omega
      ·skip
       have d1 : ¬ (i : Int) < (rl : Int) := by omega
       rw [show (inR ws).getD i 0 = 0 by rw [List.getD_eq_getElem?_getD, List.getElem?_eq_none (by rw [<- HWS.out.1]; omega)]; rfl] at x1
       go_wp2_with (first | (go_at_call 17; refine num_at ?_) | (rw [<- hw_wx, <- hg_g70]; clear hw_wx hg_g70; refine wpList_store_row rfl 69 _ _ rfl g70 (vmCells vm).toArray rfl rfl _ _ HKX.out (by rw [vmSize HM.out]; kernel_rfl) (by rw [vmSize HM.out]; rfl) (vm_one vm) ?_; rw [<- hw_w70]; clear hw_w70))
       go_roundw
       case rel => exact ⟨i + 1, G2, by omega, by go_num, HL2⟩
       case measure => simp [intOf]; omega
     ·have hik : ¬ (i : Int) < 20 := by omega
      go_wp2_with fail
      go_ret
      exact ⟨rfl, HL.out.below⟩
end Go.Proofs.YtooeeiiiflfckaaGreat
