/- Several texts of this claim as one. -/
import Derived.Test.YtooeeiiiflfckaaGreatEvA
import Derived.IntWalk
import Derived.Test.YtooeeiiiflfckaaGreatRef1
import Derived.Maps.OwnSet
import Derived.Test.YtooeeiiiflfckaaGreatLibA
/- What the functions of package supply answer. -/
set_option linter.unusedVariables false
set_option linter.unusedSimpArgs false
namespace Go.Proofs.YtooeeiiiflfckaaGreat
open Go.RowKit
theorem infoInt : (Tryz.prog.info? 3).map (fun i => (i.zero, i.size, i.bytes)) = some (some (.int .i64 0), 1, 8) := by kernel_rfl
def cnts (c : Config) (part : Int) (n : Nat) : List Int := (List.range (n + 1)).map (cnt c part)
theorem cnts_len (c : Config) (part : Int) (n : Nat) : (cnts c part n).length = n + 1 := by simp [cnts]
theorem cnts_get (c : Config) (part : Int) (n k : Nat) (h : k <= n) : (cnts c part n).getD k 0 = cnt c part k := by
 have : k < n + 1 := by omega
 simp [cnts, List.getD, this]
theorem cnts_snoc (c : Config) (part : Int) (n : Nat) : cnts c part (n + 1) = cnts c part n ++ [cnt c part (n + 1)] := by
 simp [cnts, List.range_succ]
theorem cnt_bd (c : Config) (part : Int) (n : Nat) : 0 <= cnt c part n /\ cnt c part n <= n := by
 induction n with
 | zero => simp [cnt]
 | succ n ih =>
  unfold cnt
  split <;> omega
set_option maxRecDepth 100000 in
set_option maxHeartbeats 1000000 in
theorem sums_any (g : Nat) (c : Config) (part : Int) (w : World) (hc : CfgP w g c) (hk : checkCfg c = 0) :
  Calls Tryz.prog 128 #[.pointer (some ⟨g, 0, none⟩), .int .i64 part] w fun e w' => ∃ q cap, e = .returned (.slice (some ⟨q, 0, none⟩) (2 * c.frame.toNat + 1) cap) /\ w.heap.size <= q /\ 2 * c.frame.toNat + 1 <= cap /\ cap <= maxLen /\ (∀ k, k <= 2 * c.frame.toNat -> w'.cell? ⟨q, k, none⟩ = some (.int .i64 (cnt c part k))) /\ Below w.heap.size w w' := by
 obtain ⟨pv, wv, ov, hcc⟩ := hc
 have HC := Lib.hid hcc
 have z0 := hcc.c0
 unfold IntAt at z0
 obtain ⟨o1, o2, -⟩ := check_ok hk
 clear hk hcc
 obtain ⟨F, hF⟩ := Int.eq_ofNat_of_zero_le (show 0 <= c.frame by omega)
 have HF := Lib.hid hF
 rw [hF] at z0 o1 o2
 have hFt : c.frame.toNat = F := by rw [hF]; rfl
 rw [hFt]
 clear hF hFt
 have H0 := Lib.hid z0
 have hgw : g < w.heap.size := cell_lt z0
 have f1 : 1 <= F := by omega
 have f2 : F <= 256 := by omega
 clear o1 o2
 go_enter Tryz.func128, Tryz.ntmps128
 go_wp2_with fail
 go_loopw [5, 6, 7, 14] (fun v _ _ i wr => ∃ (k : Nat), k <= 2 * F /\ i = .int .i64 k /\ Hid (wr.ownsRow w.heap.size 3 1 v (k + 1) ((cnts c part k).map (Value.int .i64))) /\ Below w.heap.size w wr) (fun _ _ _ i _ => 2 * F - (intOf i).toNat)
 case atStart => exact ⟨0, by omega, rfl, Lib.hid (World.ownsRow_lit w #[.int .i64 0] 1 (Nat.le_refl _) (by decide) rfl), balloc _ _⟩
 case round =>
  obtain ⟨k, hk, rfl, HO, hB⟩ := hrel
  have HB := Lib.hid hB
  clear hB z0
  by_cases hlt : k < 2 * F
  ·obtain ⟨q, cap, rfl, hq1, hq2, hq3⟩ := ownsRow_some HO.out (by omega)
   have y0 := ownsRow_int HO.out k (by rw [cnts_len]; omega) (cnts_len _ _ _)
   rw [cnts_get _ _ _ _ (Nat.le_refl k)] at y0
   have z0 := Ext.below HB.out _ _ H0.out
   have hbd := cnt_bd c part k
   have hgr : g < wr.heap.size := cell_lt z0
   go_wp2_with fail
   refine (owner_any g wv c.windows _ _ (HC.out.ext (Ext.below HB.out)).c3 (HC.out.ext (Ext.below HB.out)).is.windows).mono ?_
   rintro e w1 ⟨rfl, hb1⟩
   have HB1 := Lib.hid (bthen HB.out hb1)
   have hk1 : cnt c part (k + 1) = cnt c part k + if ownerAt ((k : Int) % (F : Int)) c.windows = part then 1 else 0 := by
    rw [<- HF.out]; rfl
   have HO1 := Lib.hid (Below.kept HO.out hb1)
   have hs1 : w.heap.size <= w1.heap.size := HB1.out.size
   clear z0 y0 hb1 HO HB
   by_cases he : ownerAt ((k : Int) % (F : Int)) c.windows = part
   ·have e1 : (ownerAt ((k : Int) % (F : Int)) c.windows == part) = true := by simp [he]
    rw [if_pos he] at hk1
    have HK1 := Lib.hid hk1
    clear hk1 he
    go_wp2_with (at_builtin; refine append_one rfl (.tmp 33) (.tmp 35) 75 rfl w.heap.size 3 (.int .i64 0) 1 8 Tryz.underlying75 infoInt rfl (by decide) _ _ _ rfl HO1.out [.int .i64 (cnt c part k + 1)] rfl rfl rfl (by omega) (by decide) hs1 ?_)
    intro v' w2 hown2 hbel2 _
    have HO2 := Lib.hid hown2
    have HB2 := Lib.hid (HB1.out.trans hbel2)
    clear hown2 hbel2 HO1 HB1
    go_wp2
    go_roundw
    case rel => exact ⟨k + 1, by omega, by go_num, Lib.hid (by rw [cnts_snoc, HK1.out, List.map_append]; exact HO2.out), HB2.out⟩
    case measure => simp [intOf]; omega
   ·have e1 : (ownerAt ((k : Int) % (F : Int)) c.windows == part) = false := by simp [he]
    rw [if_neg he, Int.add_zero] at hk1
    have HK1 := Lib.hid hk1
    clear hk1 he
    go_wp2_with (at_builtin; refine append_one rfl (.tmp 33) (.tmp 35) 75 rfl w.heap.size 3 (.int .i64 0) 1 8 Tryz.underlying75 infoInt rfl (by decide) _ _ _ rfl HO1.out [.int .i64 (cnt c part k)] rfl rfl rfl (by omega) (by decide) hs1 ?_)
    intro v' w2 hown2 hbel2 _
    have HO2 := Lib.hid hown2
    have HB2 := Lib.hid (HB1.out.trans hbel2)
    clear hown2 hbel2 HO1 HB1
    go_wp2
    go_roundw
    case rel => exact ⟨k + 1, by omega, by go_num, Lib.hid (by rw [cnts_snoc, HK1.out, List.map_append]; exact HO2.out), HB2.out⟩
    case measure => simp [intOf]; omega
  ·obtain rfl : k = 2 * F := by omega
   obtain ⟨q, cap, rfl, hq1, hq2, hq3⟩ := ownsRow_some HO.out (by omega)
   go_wp2_with fail
   go_ret
   refine ⟨q, cap, rfl, hq1, hq2, hq3, fun j hj => ?_, HB.out⟩
   rw [ownsRow_int HO.out j (by rw [cnts_len]; omega) (cnts_len _ _ _), cnts_get _ _ _ _ hj]
end Go.Proofs.YtooeeiiiflfckaaGreat
/- What supply.Least answers. -/
namespace Go.Proofs.YtooeeiiiflfckaaGreat
open Go.RowKit
theorem leastTo_bd (c : Config) (part : Int) (r : Nat) (m : Int) (n : Nat) (h : -100000 <= m /\ m <= 100000) (hr : r <= 256) (hn : n <= 256) : -100000 <= leastTo c part r m n /\ leastTo c part r m n <= 100000 := by
 induction n with
 | zero => exact h
 | succ n ih =>
  have h1 := ih (by omega)
  have h2 := cnt_bd c part (n + r)
  have h3 := cnt_bd c part n
  unfold leastTo
  omega
theorem min_if (a b : Int) : (if b < a then b else a) = min a b := by
 split <;> omega
set_option maxRecDepth 100000 in
set_option maxHeartbeats 1000000 in
theorem least_any (c : Config) (v : Value) (p len : Int) (w : World) (hc : CfgV w v c) :
  Calls Tryz.prog 98 #[v, .int .i64 p, .int .i64 len] w fun e w' => e = .returned (.tuple #[.int .i64 (leastSpec c p len).1, .int .i64 (leastSpec c p len).2]) /\ Below w.heap.size w w' := by
 obtain ⟨pv, wv, ov, rfl, hcfg⟩ := hc
 have HC := Lib.hid hcfg
 obtain ⟨pa, pcap, rfl, hp1, hp2, hp3, hp4⟩ := hcfg.parts
 clear hp4 hcfg
 go_enter Tryz.func98, Tryz.ntmps98
 go_wp2_with fail
 refine (check_any c _ _ ⟨_, _, ov, rfl, HC.out.ext (Ext.alloc _ _)⟩).mono ?_
 rintro e w1 ⟨rfl, hb1⟩
 have hbox := (cfg_box w c _ _ _ 26 HC.out).ext (Ext.below hb1)
 have HB1 := Lib.hid (bthen (balloc _ _) hb1)
 have HX := Lib.hid hbox
 have z0 := hbox.c0
 have z2 := hbox.c2
 unfold IntAt at z0
 clear hb1 hbox
 by_cases hk : checkCfg c = 0
 ·obtain ⟨o1, o2, -⟩ := check_ok hk
  have e1 : (checkCfg c != 0) = false := by rw [hk]; rfl
  by_cases hp : p < 0 ∨ p >= c.parts.length ∨ len < 0 ∨ len > 4096
  ·have HS : Hid (leastSpec c p len = (0, 700)) := Lib.hid (by unfold leastSpec; rw [if_pos (Or.inr hp)])
   have HP := Lib.hid hp
   clear hk hp
   go_wp2_with fail
   all_goals first
    | (go_ret2; exact ⟨ret_pair HS.out, HB1.out⟩)
    | (exfalso; have := HP.out; omega)
  ·have HS : Hid (leastSpec c p len = (len / c.frame * cnt c p c.frame.toNat + leastTo c p (len % c.frame).toNat (cnt c p (len % c.frame).toNat) c.frame.toNat, 0)) := Lib.hid (by unfold leastSpec; rw [if_neg (by omega)])
   have p0 : 0 <= p := by omega
   have p1 : p < c.parts.length := by omega
   have p2 : 0 <= len := by omega
   have p3 : len <= 4096 := by omega
   have HK := Lib.hid hk
   clear hk hp
   go_wp2_with fail
   refine (sums_any _ c p w1 HX.out.p HK.out).mono ?_
   rintro e w2 ⟨q, cap, rfl, hq, hcap, hcm, hcell, hb2⟩
   have HB2 := Lib.hid (bthen HB1.out hb2)
   have hX2 := HX.out.ext (Ext.below hb2)
   have z0' := hX2.c0
   unfold IntAt at z0'
   obtain ⟨F, hF⟩ := Int.eq_ofNat_of_zero_le (show 0 <= c.frame by omega)
   obtain ⟨L, rfl⟩ := Int.eq_ofNat_of_zero_le p2
   have hFt : c.frame.toNat = F := by rw [hF]; rfl
   have hmod : ((L : Int) % c.frame).toNat = L % F := by rw [hF]; omega
   rw [hFt] at hcell hcap
   rw [hFt] at HS |-
   rw [hmod] at HS
   rw [hF] at z0' o1 o2
   have HF := Lib.hid hF
   have HCell := Lib.hid hcell
   have hrF : L % F < F := Nat.mod_lt _ (by omega)
   clear z0 z2 hb2 hX2 HX hF hFt hmod hcell
   obtain ⟨r, hr⟩ : ∃ r : Nat, L % F = r := ⟨_, rfl⟩
   rw [hr] at HS hrF
   have hmi : (L : Int) % (F : Int) = (r : Int) := by rw [<- hr]; omega
   have HR := Lib.hid hr
   clear hr
   have r0 : w2.cell? ⟨q, r, none⟩ = some (.int .i64 (cnt c p r)) := HCell.out _ (by omega)
   have hbr := cnt_bd c p r
   have f1 : 1 <= F := by omega
   have f2 : F <= 256 := by omega
   have l2 : L <= 4096 := by omega
   clear o1 o2 p2 p3
   go_wp2_with fail
   clear r0
   go_loopw [10, 11, 46] (fun m _ i wr => ∃ (k : Nat), k <= F /\ i = .int .i64 k /\ m = .int .i64 (leastTo c p r (cnt c p r) k) /\ Below w2.heap.size w2 wr) (fun _ _ i _ => F - (intOf i).toNat)
   case atStart => exact ⟨0, by omega, rfl, rfl, Below.refl _ _⟩
   case round =>
    obtain ⟨k, hk, rfl, rfl, hB⟩ := hrel
    have HB := Lib.hid hB
    have x0 := Ext.below hB _ _ z0'
    have hbl := leastTo_bd c p r (cnt c p r) k (by omega) (by omega) (by omega)
    by_cases hlt : k < F
    ·have q1 := Ext.below hB _ _ (HCell.out (k + r) (by omega))
     have q2 := Ext.below hB _ _ (HCell.out k (by omega))
     have b1 := cnt_bd c p (k + r)
     have b2 := cnt_bd c p k
     have HE := Lib.hid (show leastTo c p r (cnt c p r) (k + 1) = min (leastTo c p r (cnt c p r) k) (cnt c p (k + r) - cnt c p k) from rfl)
     have s1 : IntKind.i64.wrap ((k : Int) + r) = (k : Int) + r := IntWalk.i64_in _ (by omega)
     have s2 : (0 : Int) <= (k : Int) + r := by omega
     have s3 : ((k : Int) + r).toNat = k + r := by omega
     have s4 : IntKind.i64.wrap (cnt c p (k + r) - cnt c p k) = cnt c p (k + r) - cnt c p k := IntWalk.i64_in _ (by omega)
     have s5 : k < 2 * F + 1 := by omega
     have s6 : k + r < 2 * F + 1 := by omega
     clear hB
     go_wp2_with fail
     go_quiet (fail)
     go_wp2_with fail
     go_roundw
     case rel => exact ⟨k + 1, by omega, by go_num, by rw [HE.out, min_if], below_drewN HB.out _⟩
     case measure => simp [intOf]; omega
    ·obtain rfl : k = F := by omega
     have q2 := Ext.below hB _ _ (HCell.out k (by omega))
     have b2 := cnt_bd c p k
     have hdiv1 : 0 <= (L : Int) / (k : Int) := Int.ediv_nonneg (by omega) (by omega)
     have hdiv2 : (L : Int) / (k : Int) <= L := Int.ediv_le_self _ (by omega)
     have hm1 : 0 <= (L : Int) / (k : Int) * cnt c p k := Int.mul_nonneg hdiv1 b2.1
     have hm2 : (L : Int) / (k : Int) * cnt c p k <= 4096 * 256 := Int.mul_le_mul (by omega) (by omega) b2.1 (by omega)
     have s1 : IntKind.i64.wrap ((L : Int) / (k : Int) * cnt c p k) = (L : Int) / (k : Int) * cnt c p k := IntWalk.i64_in _ (by omega)
     have s2 : IntKind.i64.wrap ((L : Int) / (k : Int) * cnt c p k + leastTo c p r (cnt c p r) k) = (L : Int) / (k : Int) * cnt c p k + leastTo c p r (cnt c p r) k := IntWalk.i64_in _ (by omega)
     have s3 : IntKind.i64.wrap ((L : Int) / (k : Int)) = (L : Int) / (k : Int) := IntWalk.i64_in _ (by omega)
     have s4 : (L : Int).tdiv (k : Int) = (L : Int) / (k : Int) := Int.tdiv_eq_ediv_of_nonneg (by omega)
     have s5 : k < 2 * k + 1 := by omega
     have s6 : ((k : Int) == 0) = false := by simp; omega
     clear hB
     go_wp2_with fail
     go_quiet (fail)
     go_wp2_with fail
     go_ret2
     exact ⟨ret_pair (by rw [HS.out, HF.out]), bthen HB2.out (below_drewN HB.out _)⟩
 ·have HS : Hid (leastSpec c p len = (0, 700)) := Lib.hid (by unfold leastSpec; rw [if_pos (Or.inl hk)])
  have e1 : (checkCfg c != 0) = true := by simpa using hk
  clear hk
  go_wp2_with fail
  go_ret2
  exact ⟨ret_pair HS.out, HB1.out⟩
end Go.Proofs.YtooeeiiiflfckaaGreat
/- Who may ask, and what is asked for at most. -/
namespace Go.Proofs.YtooeeiiiflfckaaGreat
open Go.RowKit Go.Maps
theorem plainElem_bool_inv {H : Type} {P : Program} {e : TypeId} (he : P.underlying e = some .bool) {v : Value} {z : DataW H × List MemPlace} (h : plainElem P e v = some z) : ∃ a, v = .bool a /\ z = (.lit (.bool a), []) := by
 unfold plainElem at h
 rw [he] at h
 cases v <;> simp at h
 exact ⟨_, rfl, h.symm⟩
theorem zeroBool (w : World) : (zeroValue 4).run Tryz.prog w = .ok (.bool false) w := by kernel_rfl
theorem prioKeyed : Keyed Tryz.prog 3 := int_keyed Tryz.underlying3
def prioKeys (ts : List Task) (k : Nat) : List Lit := (ts.take k).map fun t => .int .i64 t.prio
def seenAt (ts : List Task) (k : Nat) : DataW Unit := setOf (.lit (.bool true)) (prioKeys ts k)
theorem seenAt_succ (ts : List Task) (k : Nat) (hk : k < ts.length) : seenAt ts (k + 1) = (seenAt ts k).put (.int .i64 ts[k].prio) (.lit (.bool true)) := by
 unfold seenAt
 rw [<- setOf_snoc]
 congr 1
 unfold prioKeys
 rw [List.take_add_one, List.map_append]
 simp [List.getElem?_eq_getElem hk]
theorem seen_not (ts : List Task) (k : Nat) (hk : k < ts.length) (h : (ts.take k).any (fun x => decide (x.prio = ts[k].prio)) = false) (z : DataW Unit) : (seenAt ts k).atKey (.int .i64 ts[k].prio) z = z := by
 refine atKey_of_not_has ?_ z
 unfold seenAt
 rw [has_setOf _ _ _ (by
  intro x hx
  unfold prioKeys at hx
  obtain ⟨t, -, rfl⟩ := List.mem_map.1 hx
  trivial)]
 rw [List.any_eq_false]
 intro x hx hs
 unfold prioKeys at hx
 obtain ⟨t, ht, rfl⟩ := List.mem_map.1 hx
 have he := WideAt.sameKey_eq hs
 injection he with _ he
 have := List.any_eq_false.1 h t ht
 simp [he] at this
theorem prio_key (t : Task) (hm : taskMay t = true) : keyOf Tryz.prog 3 (.int .i64 t.prio) = some (.int .i64 t.prio) := by
 have hp : 0 <= t.prio /\ t.prio <= 255 := by
  unfold taskMay at hm
  have := of_decide_eq_true hm
  omega
 exact keyOf_int_mk Tryz.underlying3 (by simp [Lit.wf, IntKind.min, IntKind.max, IntKind.bits, IntKind.signed]; omega)
theorem seen_look {W : World} {b n k : Nat} {ts : List Task} (h : W.ownsMap Tryz.prog 3 (plainElem Tryz.prog 4) b n (seenAt ts k)) (hk : k < ts.length) (hm : taskMay ts[k] = true) (ha : (ts.take k).any (fun x => decide (x.prio = ts[k].prio)) = false) :
  (Instr.lookup 264 (.map (some b)) (.int .i64 ts[k].prio) false).run Tryz.prog W = .ok (.bool false) W := by
 have hkey := prio_key ts[k] hm
 obtain ⟨v, ps, hrun, hR⟩ := h.lookup prioKeyed Tryz.underlying264 (zeroBool W) (plainElem_bool Tryz.underlying4 false) hkey
 rw [seen_not ts k hk ha] at hR
 obtain ⟨a, rfl, hz⟩ := plainElem_bool_inv Tryz.underlying4 hR
 simp at hz
 rw [hrun, hz.1]
theorem ownsMap_below {H : Type} {w w' : World} {P : Program} {k : TypeId} {R : Value -> Option (DataW H × List MemPlace)} {b n : Nat} {D : DataW H} (h : w.ownsMap P k R b n D) (hb : Below w.heap.size w w') : w'.ownsMap P k R b n D :=
 h.kept (World.grownBy.mk hb.os hb.tape hb.output hb.size (fun j hj _ => hb.block j hj) : w.grownBy w' none) (by simp)
theorem tasksOk_at (ts : List Task) (h : tasksOk ts = true) : ∀ k (hk : k < ts.length), taskMay ts[k] = true /\ (ts.take k).any (fun x => decide (x.prio = ts[k].prio)) = false := by
 have key : ∀ k, k <= ts.length -> tasksOkFrom ts k (ts.drop k) = true := by
  intro k
  induction k with
  | zero => intro _; simpa [tasksOk] using h
  | succ k ih =>
   intro hk
   have h1 := ih (by omega)
   rw [tasksOkFrom_step ts k (by omega)] at h1
   simp only [Bool.and_eq_true] at h1
   exact h1.2
 intro k hk
 have h1 := key k (by omega)
 rw [tasksOkFrom_step ts k hk] at h1
 simp only [Bool.and_eq_true, Bool.not_eq_true'] at h1
 exact h1.1
set_option maxRecDepth 100000 in
set_option maxHeartbeats 1000000 in
theorem may_any (v : Value) (ts : List Task) (w : World) (hv : TasksV w v ts) (hok : tasksOk ts = true) (h6 : ts.length <= 6) :
  Calls Tryz.prog 129 #[v] w fun e w' => e = .returned (.bool true) /\ Below w.heap.size w w' := by
 obtain ⟨a, c, rfl, hv1, hv2, hv3, hv4⟩ := hv
 have HV := Lib.hid hv4
 have HK := Lib.hid (tasksOk_at ts hok)
 have hmm := @run_makeMap Tryz.prog
 clear hv4 hok
 go_enter Tryz.func129, Tryz.ntmps129
 go_wp2_with fail
 go_loopw [9] (fun i wr => ∃ (k : Nat), k <= ts.length /\ i = .int .i64 k /\ Hid (wr.ownsMap Tryz.prog 3 (plainElem Tryz.prog 4) w.heap.size k (seenAt ts k)) /\ Below w.heap.size w wr) (fun i _ => ts.length - (intOf i).toNat)
 case atStart => exact ⟨0, by omega, rfl, Lib.hid (by simpa [seenAt, prioKeys, setOf] using World.ownsMap_made w _ _ _), balloc _ _⟩
 case round =>
  obtain ⟨k, hk, rfl, HO, hB⟩ := hrel
  have HB := Lib.hid hB
  clear hB hmm
  by_cases hlt : k < ts.length
  ·obtain ⟨b, off, rfl, hcell⟩ := HV.out (by intro h; rw [h] at hlt; simp at hlt)
   obtain ⟨y0, y1, y2, y3, y4, y5⟩ := TaskAt.ext (Ext.below HB.out) (hcell k hlt)
   unfold IntAt at y0 y1 y2 y3 y4 y5
   clear hcell
   obtain ⟨hm, ha⟩ := HK.out k hlt
   have HM := Lib.hid (And.intro hm ha)
   clear ha
   go_wp2_with fail
   refine (taskMay_any _ _).mono ?_
   rintro e w1 ⟨rfl, hb1⟩
   have HB1 := Lib.hid (bthen HB.out (bthen (balloc _ _) hb1))
   have hO1 := ownsMap_below (HO.out.alloc (.cells (taskV ts[k]).cells 51)) hb1
   have hrun := seen_look hO1 hlt HM.out.1 HM.out.2
   have HO1 := Lib.hid hO1
   obtain ⟨c1, f1⟩ := bcell hb1
   clear hb1 HB HO hO1 y0 y1 y2 y3 y4 y5
   rw [hm]
   clear hm
   go_wp2_with (first
    | (at_mapUpdate; refine wpList_mapUpdate_own _ rfl _ _ _ 264 rfl 3 4 prioKeyed Tryz.underlying264 (plainElem (H := Unit) Tryz.prog 4) w.heap.size k _ rfl HO1.out (by unfold maxLen; omega) _ _ _ rfl rfl (prio_key ts[k] HM.out.1) _ [] (plainElem_bool Tryz.underlying4 true) ?_; intro w2 hown2 hgrow2)
    | fail)
   have HO2 := Lib.hid hown2
   have HB2 := Lib.hid (HB1.out.grown hgrow2 HB1.out.size (fun j hj => by cases hj; exact Nat.le_refl _))
   clear hown2 hgrow2 hrun
   go_wp2_with fail
   go_roundw
   case rel => exact ⟨k + 1, by omega, by go_num, Lib.hid (by rw [seenAt_succ ts k hlt]; exact HO2.out), HB2.out⟩
   case measure => simp [intOf]; omega
  ·go_wp2_with fail
   go_ret
   exact ⟨rfl, HB.out⟩
end Go.Proofs.YtooeeiiiflfckaaGreat
/- What is asked for at most: the program's answer and the reference's. -/
namespace Go.Proofs.YtooeeiiiflfckaaGreat
open Go.RowKit
def ask1 (p len : Int) (t : Task) : Int := if t.prio < p then t.chigh * ((len + t.period - 1) / t.period) else 0
def ask (p len : Int) : List Task -> Int
 | [] => 0
 | t :: r => ask1 p len t + ask p len r
def task0 : Task := ⟨0, 0, 0, 0, 0, 0⟩
def boundOf (ts : List Task) (i : Nat) (len : Int) : Int := (ts.getD i task0).chigh + ask (ts.getD i task0).prio len ts
theorem ask_step (p len : Int) (ts : List Task) (k : Nat) (h : k < ts.length) : ask p len (ts.drop k) = ask1 p len ts[k] + ask p len (ts.drop (k + 1)) := by
 rw [List.drop_eq_getElem_cons h]; rfl
theorem may_cases (t : Task) (h : taskMay t = true) : 1 <= t.period /\ t.period <= 1024 /\ 1 <= t.chigh /\ t.chigh <= t.deadline /\ t.deadline <= t.period /\ 1 <= t.deadline /\ 0 <= t.prio /\ t.prio <= 255 := by
 unfold taskMay at h
 have := of_decide_eq_true h
 omega
theorem ask_quo (t : Task) (len : Int) (h : taskMay t = true) (h0 : 0 <= len) (h1 : len <= 4096) : 0 <= (len + t.period - 1) / t.period /\ (len + t.period - 1) / t.period <= 5119 /\ 0 <= t.chigh * ((len + t.period - 1) / t.period) /\ t.chigh * ((len + t.period - 1) / t.period) <= 5241856 := by
 have hm := may_cases t h
 have a1 : 0 <= (len + t.period - 1) / t.period := Int.ediv_nonneg (by omega) (by omega)
 have a2 : (len + t.period - 1) / t.period <= len + t.period - 1 := Int.ediv_le_self _ (by omega)
 have a3 : 0 <= t.chigh * ((len + t.period - 1) / t.period) := Int.mul_nonneg (by omega) a1
 have a4 : t.chigh * ((len + t.period - 1) / t.period) <= 1024 * 5119 := Int.mul_le_mul (by omega) (by omega) a1 (by omega)
 exact ⟨a1, by omega, a3, by omega⟩
theorem tasksOk_all (ts : List Task) (h : tasksOk ts = true) : ∀ t ∈ ts, taskMay t = true := by
 intro t ht
 obtain ⟨k, hk, rfl⟩ := List.getElem_of_mem ht
 exact (tasksOk_at ts h k hk).1
set_option maxRecDepth 100000 in
set_option maxHeartbeats 1000000 in
theorem bound_any (v : Value) (ts : List Task) (i : Nat) (len : Int) (w : World) (hv : TasksV w v ts) (hok : tasksOk ts = true) (h6 : ts.length <= 6) (hi : i < ts.length) (h0 : 0 <= len) (h1 : len <= 4096) :
  Calls Tryz.prog 99 #[v, .int .i64 i, .int .i64 len] w fun e w' => e = .returned (.tuple #[.int .i64 (boundOf ts i len), .int .i64 0]) /\ Below w.heap.size w w' := by
 have HVV := Lib.hid hv
 obtain ⟨a, c, rfl, hv1, hv2, hv3, hv4⟩ := hv
 obtain ⟨b, off, rfl, hcell⟩ := hv4 (by intro h; rw [h] at hi; simp at hi)
 have HC := Lib.hid hcell
 have HA := Lib.hid (tasksOk_all ts hok)
 have HOK := Lib.hid hok
 have hgi : ts.getD i task0 = ts[i] := by simp [List.getD, List.getElem?_eq_getElem hi]
 clear hv4 hok hcell
 have HG := Lib.hid (show boundOf ts i len = ts[i].chigh + ask ts[i].prio len ts by unfold boundOf; rw [hgi])
 clear hgi
 go_enter Tryz.func99, Tryz.ntmps99
 go_wp2_with fail
 refine (may_any _ _ _ HVV.out HOK.out h6).mono ?_
 rintro e w1 ⟨rfl, hb1⟩
 have HB1 := Lib.hid hb1
 have q4 := ((HC.out i hi).ext (Ext.below hb1)).2.2.2.2.1
 unfold IntAt at q4
 clear hb1
 go_wp2_with fail
 clear q4
 obtain ⟨wo, rfl⟩ : ∃ wo : World, wo = w1 := ⟨_, rfl⟩
 go_loopw [8, 39] (fun m j wr => ∃ (k : Nat) (x : Int), k <= ts.length /\ j = .int .i64 k /\ m = .int .i64 x /\ 0 <= x /\ x <= 1024 + k * 5241856 /\ Hid (boundOf ts i len = x + ask ts[i].prio len (ts.drop k)) /\ Below w.heap.size w wr) (fun _ j _ => ts.length - (intOf j).toNat)
 case atStart =>
  have hc := may_cases ts[i] (HA.out _ (List.getElem_mem hi))
  exact ⟨0, ts[i].chigh, by omega, rfl, rfl, by omega, by omega, Lib.hid (by rw [HG.out, List.drop_zero]), HB1.out⟩
 case round =>
  obtain ⟨k, x, hk, rfl, rfl, hx0, hx1, HD, hB⟩ := hrel
  have HB := Lib.hid hB
  clear hB
  by_cases hlt : k < ts.length
  ·obtain ⟨y0, y1, y2, y3, y4, y5⟩ := TaskAt.ext (Ext.below HB.out) (HC.out k hlt)
   have q5 := ((HC.out i hi).ext (Ext.below HB.out)).2.2.2.2.2
   unfold IntAt at y0 y1 y2 y3 y4 y5 q5
   have hgr : b < wr.heap.size := cell_lt q5
   have hst := ask_step ts[i].prio len ts k hlt
   have hmk := HA.out _ (List.getElem_mem hlt)
   obtain ⟨a1, a2, a3, a4⟩ := ask_quo ts[k] len hmk h0 h1
   obtain ⟨m1, m2, m3, m4, m5, -⟩ := may_cases ts[k] hmk
   have s1 : IntKind.i64.wrap (len + ts[k].period) = len + ts[k].period := IntWalk.i64_in _ (by omega)
   have s2 : IntKind.i64.wrap (len + ts[k].period - 1) = len + ts[k].period - 1 := IntWalk.i64_in _ (by omega)
   have s3 : IntKind.i64.wrap ((len + ts[k].period - 1) / ts[k].period) = (len + ts[k].period - 1) / ts[k].period := IntWalk.i64_in _ (by omega)
   have s4 : (len + ts[k].period - 1).tdiv ts[k].period = (len + ts[k].period - 1) / ts[k].period := Int.tdiv_eq_ediv_of_nonneg (by omega)
   have s5 : IntKind.i64.wrap (ts[k].chigh * ((len + ts[k].period - 1) / ts[k].period)) = ts[k].chigh * ((len + ts[k].period - 1) / ts[k].period) := IntWalk.i64_in _ (by omega)
   have s6 : IntKind.i64.wrap (x + ts[k].chigh * ((len + ts[k].period - 1) / ts[k].period)) = x + ts[k].chigh * ((len + ts[k].period - 1) / ts[k].period) := IntWalk.i64_in _ (by omega)
   have s7 : (ts[k].period == 0) = false := by simp; omega
   have s8 : (ts[k].period == -1) = false := by simp; omega
   have s9 : ¬ ts[k].period = 0 := by omega
   have s10 : ¬ ts[k].period = -1 := by omega
   have HQ := Lib.hid (And.intro a3 a4)
   clear a1 a2 a3 a4 m1 m2 m3 m4 m5 hmk
   by_cases hlp : ts[k].prio < ts[i].prio
   ·have ha1 : ask1 ts[i].prio len ts[k] = ts[k].chigh * ((len + ts[k].period - 1) / ts[k].period) := by unfold ask1; rw [if_pos hlp]
    rw [ha1] at hst
    have HS := Lib.hid hst
    have e1 : decide (ts[k].prio < ts[i].prio) = true := decide_eq_true hlp
    clear hst ha1 hlp
    go_wp2_with fail
    go_quiet (fail)
    go_wp2_with fail
    go_quiet (fail)
    go_wp2_with fail
    go_roundw
    case rel => exact ⟨k + 1, _, by omega, by go_num, rfl, by have := HQ.out; omega, by have := HQ.out; push_cast; omega, Lib.hid (by rw [HD.out, HS.out, Int.add_assoc]), below_drewN (bthen HB.out (balloc _ _)) _⟩
    case measure => simp [intOf]; omega
   ·have ha1 : ask1 ts[i].prio len ts[k] = 0 := by unfold ask1; rw [if_neg hlp]
    rw [ha1, Int.zero_add] at hst
    have HS := Lib.hid hst
    have e1 : decide (ts[k].prio < ts[i].prio) = false := decide_eq_false hlp
    clear hst ha1 hlp
    go_wp2_with fail
    go_quiet (fail)
    go_wp2_with fail
    go_roundw
    case rel => exact ⟨k + 1, x, by omega, by go_num, rfl, by omega, by push_cast; omega, Lib.hid (by rw [HD.out, HS.out]), below_drewN (bthen HB.out (balloc _ _)) _⟩
    case measure => simp [intOf]; omega
  ·have hfin : boundOf ts i len = x := by rw [HD.out, List.drop_of_length_le (by omega)]; simp [ask]
   have HF := Lib.hid hfin
   clear hfin
   go_wp2_with fail
   go_ret2
   exact ⟨by rw [HF.out]; rfl, HB.out⟩
end Go.Proofs.YtooeeiiiflfckaaGreat
/- In how many ticks a job is done: the program's answer and the reference's. -/
namespace Go.Proofs.YtooeeiiiflfckaaGreat
open Go.RowKit
def part0 : Part := ⟨0, [], []⟩
def tasksOf (c : Config) (p : Int) : List Task := (c.parts.getD p.toNat part0).tasks
def respGo (c : Config) (p : Int) (ts : List Task) (i : Nat) : Nat -> Nat -> Int × Int
 | _, 0 => (0, 901)
 | l, m + 1 => if boundOf ts i l <= (leastSpec c p l).1 then ((l : Int), 0) else respGo c p ts i (l + 1) m
def respIn (c : Config) (p : Int) (i : Nat) : Int × Int := respGo c p (tasksOf c p) i 1 ((tasksOf c p).getD i task0).deadline.toNat
def respSpec (c : Config) (p i : Int) : Int × Int :=
 if checkCfg c ≠ 0 ∨ levelOf c.parts p ≠ 1 ∨ i < 0 ∨ i >= (tasksOf c p).length then (0, 900) else respIn c p i.toNat
theorem check_tasks {c : Config} (h : checkCfg c = 0) (x : Part) (hx : x ∈ c.parts) : tasksMay x = true := by
 unfold checkCfg at h
 split at h
 ·omega
 split at h
 ·omega
 split at h
 ·omega
 rename_i h1 h2 h3
 have h4 := List.any_eq_false.1 (Bool.not_eq_true _ ▸ h3) x hx
 simpa using h4
theorem tasks_ok {x : Part} (h : tasksMay x = true) : tasksOk x.tasks = true /\ x.tasks.length <= 6 := by
 rw [tasksMay_eq] at h
 simp only [Bool.and_eq_true, decide_eq_true_eq] at h
 exact ⟨h.2.2, h.2.1⟩
theorem tasksOf_at (c : Config) (P : Nat) (h : P < c.parts.length) : tasksOf c P = c.parts[P].tasks := by
 unfold tasksOf
 simp [List.getD, List.getElem?_eq_getElem h]
theorem levelOf_at (c : Config) (P : Nat) (h : P < c.parts.length) : levelOf c.parts P = c.parts[P].level := by
 unfold levelOf
 rw [if_neg (by omega)]
 simp [List.getD, List.getElem?_eq_getElem h]
theorem respSpec_bad {c : Config} {p i : Int} (h : checkCfg c ≠ 0 ∨ levelOf c.parts p ≠ 1 ∨ i < 0 ∨ i >= (tasksOf c p).length) : respSpec c p i = (0, 900) := by
 unfold respSpec; rw [if_pos h]
theorem respIn_at (c : Config) (P I : Nat) (ts : List Task) (D : Nat) (hP : P < c.parts.length) (ht : c.parts[P].tasks = ts) (hI : I < ts.length) (hD : ts[I].deadline = (D : Int)) : respIn c P I = respGo c P ts I 1 D := by
 unfold respIn
 rw [tasksOf_at c P hP, ht]
 simp [List.getD, List.getElem?_eq_getElem hI, hD]
theorem respSpec_in {c : Config} {P I : Nat} (hk : checkCfg c = 0) (hP : P < c.parts.length) (hl : c.parts[P].level = 1) (hI : I < c.parts[P].tasks.length) : respSpec c P I = respIn c P I := by
 unfold respSpec
 rw [levelOf_at c P hP, tasksOf_at c P hP, if_neg (by omega)]
 rfl
set_option maxRecDepth 100000 in
set_option maxHeartbeats 2000000 in
theorem response_any (c : Config) (v : Value) (p i : Int) (w : World) (hc : CfgV w v c) :
  Calls Tryz.prog 56 #[v, .int .i64 p, .int .i64 i] w fun e w' => e = .returned (.tuple #[.int .i64 (respSpec c p i).1, .int .i64 (respSpec c p i).2]) /\ Below w.heap.size w w' := by
 obtain ⟨pv, wv, ov, rfl, hcfg⟩ := hc
 have HC := Lib.hid hcfg
 obtain ⟨pa, pcap, rfl, hp1, hp2, hp3, hp4⟩ := hcfg.parts
 have HP := Lib.hid hp4
 clear hp4 hcfg
 go_enter Tryz.func56, Tryz.ntmps56
 go_wp2_with fail
 refine (check_any c _ _ ⟨_, _, ov, rfl, HC.out.ext (Ext.alloc _ _)⟩).mono ?_
 rintro e w1 ⟨rfl, hb1⟩
 have HB1 := Lib.hid (bthen (balloc _ _) hb1)
 have HX := Lib.hid ((cfg_box w c _ _ _ 26 HC.out).ext (Ext.below hb1))
 have z0 := HX.out.c0; have z1 := HX.out.c1; have z2 := HX.out.c2; have z3 := HX.out.c3; have z4 := HX.out.c4; unfold IntAt at z0 z1
 clear hb1
 by_cases hk : checkCfg c = 0
 ·have e1 : (checkCfg c != 0) = false := by rw [hk]; rfl
  by_cases hp : p < 0 ∨ p >= c.parts.length
  ·have HS : Hid (respSpec c p i = (0, 900)) := Lib.hid (respSpec_bad (Or.inr (Or.inl (by unfold levelOf; rw [if_pos hp]; decide))))
   have HPP := Lib.hid hp
   clear hk hp
   go_wp2_with fail
   all_goals first
    | (go_ret2; exact ⟨ret_pair HS.out, HB1.out⟩)
    | (exfalso; have := HPP.out; omega)
  ·obtain ⟨P, rfl⟩ := Int.eq_ofNat_of_zero_le (show 0 <= p by omega)
   have hP : P < c.parts.length := by omega
   obtain ⟨b, off, rfl, hcell⟩ := HP.out (by intro h; rw [h] at hP; simp at hP)
   obtain ⟨y0, tv, cv, y1, y2, hpi⟩ := PartAt.ext (Ext.below HB1.out) (hcell P hP)
   obtain ⟨ts, hts⟩ : ∃ ts, ts = c.parts[P].tasks := ⟨_, rfl⟩
   have hT := hpi.tasks
   rw [<- hts] at hT
   have HT := Lib.hid hT
   obtain ⟨ta, tc, rfl, t2, t3, t4, t5⟩ := hT
   obtain ⟨hok, h6⟩ := tasks_ok (check_tasks hk _ (List.getElem_mem hP))
   rw [<- hts] at hok h6
   unfold IntAt at y0
   clear hcell hpi hp
   by_cases hl : c.parts[P].level = 1
   ·have e2 : (c.parts[P].level != 1) = false := by rw [hl]; rfl
    rw [hl] at y0
    by_cases hi : i < 0 ∨ i >= ts.length
    ·have HS : Hid (respSpec c P i = (0, 900)) := Lib.hid (respSpec_bad (Or.inr (Or.inr (by rw [tasksOf_at c P hP, <- hts]; exact hi))))
     have HI := Lib.hid hi
     clear hk hi t5 hts hok
     go_wp2_with fail
     all_goals first
      | (go_ret2; exact ⟨ret_pair HS.out, HB1.out⟩)
      | (exfalso; have := HI.out; omega)
    ·obtain ⟨I, rfl⟩ := Int.eq_ofNat_of_zero_le (show 0 <= i by omega)
     have hI : I < ts.length := by omega
     obtain ⟨tb, toff, rfl, tcell⟩ := t5 (by intro h; rw [h] at hI; simp at hI)
     have hm := may_cases ts[I] (tasksOk_all ts hok _ (List.getElem_mem hI))
     obtain ⟨D, hD⟩ := Int.eq_ofNat_of_zero_le (show 0 <= ts[I].deadline by omega)
     have hD1 : 1 <= D := by omega
     have hD2 : D <= 1024 := by omega
     have q2 := (tcell I hI).2.2.1
     unfold IntAt at q2
     rw [hD] at q2
     have HQ := Lib.hid q2
     have HR := Lib.hid (show respSpec c P I = respGo c P ts I 1 D by rw [respSpec_in hk hP hl (by rw [<- hts]; exact hI)]; exact respIn_at c P I ts D hP hts.symm hI hD)
     have HOK := Lib.hid hok
     clear hk hi hts hok tcell hm hD hl
     have d2 : decide (c.parts.length <= P) = false := decide_eq_false (by omega)
     have d4 : decide (ts.length <= I) = false := decide_eq_false (by omega)
     go_wp2_with fail
     clear q2 y0 y1 y2
     go_loopw [9] (fun j wr => ∃ k : Nat, 1 <= k /\ k <= D + 1 /\ j = .int .i64 k /\ Hid (respSpec c P I = respGo c P ts I k (D + 1 - k)) /\ Below w1.heap.size w1 wr) (fun j _ => D + 1 - (intOf j).toNat)
     case atStart => exact ⟨1, by omega, by omega, rfl, HR, Below.refl _ _⟩
     case round =>
      obtain ⟨k, hk1, hk2, rfl, HG, hB⟩ := hrel
      have HB := Lib.hid hB
      have z0 := Ext.below hB _ _ z0
      have z1 := Ext.below hB _ _ z1
      have z2 := Ext.below hB _ _ z2
      have z3 := Ext.below hB _ _ z3
      have z4 := Ext.below hB _ _ z4
      have q2 := Ext.below hB _ _ HQ.out
      clear hB
      by_cases hlt : k <= D
      ·have hst : respGo c P ts I k (D + 1 - k) = if boundOf ts I k <= (leastSpec c P k).1 then ((k : Int), 0) else respGo c P ts I (k + 1) (D - k) := by
        rw [show D + 1 - k = (D - k) + 1 by omega]; rfl
       rw [hst] at HG
       have HG := Lib.hid HG.out
       clear hst
       go_wp2_with fail
       refine (least_any c _ P k _ ⟨_, _, _, rfl, HX.out.is.ext (Ext.below HB.out)⟩).mono ?_
       rintro e w2 ⟨rfl, hb2⟩
       have HB2 := Lib.hid (bthen HB.out hb2)
       clear hb2 z0 z1 z2 z3 z4 q2 HB
       obtain ⟨lv, hlv⟩ : ∃ lv, lv = (leastSpec c P k).1 := ⟨_, rfl⟩
       rw [<- hlv] at HG |-
       clear hlv
       go_wp2_with fail
       refine (bound_any _ ts I k _ (HT.out.ext (Ext.below HB2.out)) HOK.out h6 hI (by omega) (by omega)).mono ?_
       rintro e w3 ⟨rfl, hb3⟩
       have HB3 := Lib.hid (bthen HB2.out hb3)
       clear hb3 HB2
       obtain ⟨bv, hbv⟩ : ∃ bv, bv = boundOf ts I k := ⟨_, rfl⟩
       rw [<- hbv] at HG |-
       clear hbv
       by_cases hge : bv <= lv
       ·have HG := Lib.hid (HG.out.trans (if_pos hge))
        have e3 : decide (lv >= bv) = true := decide_eq_true hge
        go_wp2_with fail
        go_ret2
        exact ⟨ret_pair HG.out, bthen HB1.out HB3.out⟩
       ·have HG := Lib.hid (HG.out.trans (if_neg hge))
        have e3 : decide (lv >= bv) = false := decide_eq_false hge
        go_wp2_with fail
        go_roundw
        case rel => exact ⟨k + 1, by omega, by omega, by go_num, Lib.hid (by rw [HG.out, show D + 1 - (k + 1) = D - k by omega]), HB3.out⟩
        case measure => simp [intOf]; omega
      ·obtain rfl : k = D + 1 := by omega
       have HG := Lib.hid (show respSpec c P I = (0, 901) by rw [HG.out, show D + 1 - (D + 1) = 0 by omega]; rfl)
       go_wp2_with fail
       go_ret2
       exact ⟨ret_pair HG.out, bthen HB1.out HB.out⟩
   ·have HS : Hid (respSpec c P i = (0, 900)) := Lib.hid (respSpec_bad (Or.inr (Or.inl (by rw [levelOf_at c P hP]; exact hl))))
    have e2 : (c.parts[P].level != 1) = true := by simpa using hl
    clear hk hl t5 hts hok
    go_wp2_with fail
    go_ret2
    exact ⟨ret_pair HS.out, HB1.out⟩
 ·have HS : Hid (respSpec c p i = (0, 900)) := Lib.hid (respSpec_bad (Or.inl hk))
  have e1 : (checkCfg c != 0) = true := by simpa using hk
  clear hk
  go_wp2_with fail
  go_ret2
  exact ⟨ret_pair HS.out, HB1.out⟩
end Go.Proofs.YtooeeiiiflfckaaGreat
/- Who may run: the program's answer and the reference's. -/
namespace Go.Proofs.YtooeeiiiflfckaaGreat
open Go.RowKit
def lateTasks (c : Config) (p : Int) : Nat -> List Task -> Bool
 | _, [] => false
 | i, _ :: r => decide ((respIn c p i).2 ≠ 0) || lateTasks c p (i + 1) r
def lateFrom (c : Config) : Nat -> List Part -> Bool
 | _, [] => false
 | p, x :: r => (decide (x.level = 1) && lateTasks c p 0 x.tasks) || lateFrom c (p + 1) r
def noneFrom (c : Config) : Nat -> List Part -> Bool
 | _, [] => false
 | p, x :: r => (decide (x.level = 0) && decide (shareOf p c.windows = 0)) || noneFrom c (p + 1) r
def admitSpec (c : Config) : Int := if checkCfg c ≠ 0 then checkCfg c else if lateFrom c 0 c.parts = true then 901 else if noneFrom c 0 c.parts = true then 902 else 0
theorem lateTasks_step (c : Config) (p : Int) (ts : List Task) (k : Nat) (h : k < ts.length) : lateTasks c p k (ts.drop k) = (decide ((respIn c p k).2 ≠ 0) || lateTasks c p (k + 1) (ts.drop (k + 1))) := by
 rw [List.drop_eq_getElem_cons h]; rfl
theorem lateFrom_step (c : Config) (ps : List Part) (k : Nat) (h : k < ps.length) : lateFrom c k (ps.drop k) = ((decide (ps[k].level = 1) && lateTasks c k 0 ps[k].tasks) || lateFrom c (k + 1) (ps.drop (k + 1))) := by
 rw [List.drop_eq_getElem_cons h]; rfl
theorem noneFrom_step (c : Config) (ps : List Part) (k : Nat) (h : k < ps.length) : noneFrom c k (ps.drop k) = ((decide (ps[k].level = 0) && decide (shareOf k c.windows = 0)) || noneFrom c (k + 1) (ps.drop (k + 1))) := by
 rw [List.drop_eq_getElem_cons h]; rfl
set_option maxRecDepth 100000 in
set_option maxHeartbeats 2000000 in
theorem admit_any (c : Config) (v : Value) (w : World) (hc : CfgV w v c) :
  Calls Tryz.prog 34 #[v] w fun e w' => e = .returned (.int .i64 (admitSpec c)) /\ Below w.heap.size w w' := by
 obtain ⟨pv, wv, ov, rfl, hcfg⟩ := hc
 have HC := Lib.hid hcfg
 obtain ⟨pa, pcap, rfl, hp1, hp2, hp3, hp4⟩ := hcfg.parts
 have HP := Lib.hid hp4
 clear hp4 hcfg
 go_enter Tryz.func34, Tryz.ntmps34
 go_wp2_with fail
 refine (check_any c _ _ ⟨_, _, ov, rfl, HC.out.ext (Ext.alloc _ _)⟩).mono ?_
 rintro e w1 ⟨rfl, hb1⟩
 have HB1 := Lib.hid (bthen (balloc _ _) hb1)
 have HX := Lib.hid ((cfg_box w c _ _ _ 26 HC.out).ext (Ext.below hb1))
 have z0 := HX.out.c0; have z1 := HX.out.c1; have z2 := HX.out.c2; have z3 := HX.out.c3; have z4 := HX.out.c4; unfold IntAt at z0 z1
 clear hb1
 by_cases hk : checkCfg c = 0
 ·have e1 : (checkCfg c != 0) = false := by rw [hk]; rfl
  have HK := Lib.hid hk
  have HA := Lib.hid (show admitSpec c = if lateFrom c 0 c.parts = true then 901 else if noneFrom c 0 c.parts = true then 902 else 0 by unfold admitSpec; rw [if_neg (by omega)])
  have h8 : c.parts.length <= 8 := (check_ok hk).2.2.2.2.2.1
  clear hk
  go_wp2_with fail
  clear z0 z1 z2 z3 z4
  go_loopw [21] (fun j wr => ∃ k : Nat, k <= c.parts.length /\ j = .int .i64 k /\ Hid (lateFrom c 0 c.parts = lateFrom c k (c.parts.drop k)) /\ Below w1.heap.size w1 wr) (fun j _ => c.parts.length - (intOf j).toNat)
  case atStart => exact ⟨0, by omega, rfl, Lib.hid (by simp), Below.refl _ _⟩
  case round =>
   obtain ⟨k, hk, rfl, HG, hB⟩ := hrel
   have HB := Lib.hid hB
   clear hB
   by_cases hlt : k < c.parts.length
   ·obtain ⟨b, off, rfl, hcell⟩ := HP.out (by intro h; rw [h] at hlt; simp at hlt)
    obtain ⟨y0, tv, cv, y1, y2, hpi⟩ := PartAt.ext ((Ext.below HB1.out).trans (Ext.below HB.out)) (hcell k hlt)
    obtain ⟨ta, tc, rfl, t2, t3, t4, -⟩ := hpi.tasks
    obtain ⟨ca, cc, rfl, c2, c3, c4, -⟩ := hpi.code
    obtain ⟨nc, hnc⟩ : ∃ nc, nc = c.parts[k].code.length := ⟨_, rfl⟩
    rw [<- hnc] at y2 c2 c3
    clear hnc
    unfold IntAt at y0
    have hst := lateFrom_step c c.parts k hlt
    rw [<- HG.out] at hst
    have HS := Lib.hid hst
    have h6 := (tasks_ok (check_tasks HK.out _ (List.getElem_mem hlt))).2
    have hgr : b < wr.heap.size := cell_lt y0
    have HBr := Lib.hid (balloc wr (.cells #[.int .i64 c.parts[k].level, .slice ta c.parts[k].tasks.length tc, .slice ca nc cc] 49))
    obtain ⟨w2, hw2⟩ : ∃ w2, w2 = wr.alloc (.cells #[.int .i64 c.parts[k].level, .slice ta c.parts[k].tasks.length tc, .slice ca nc cc] 49) := ⟨_, rfl⟩
    have x0 : w2.cell? ⟨wr.heap.size, 0, none⟩ = some (.int .i64 c.parts[k].level) := by rw [hw2]; exact box_at 0 rfl
    have x1 : w2.cell? ⟨wr.heap.size, 1, none⟩ = some (.slice ta c.parts[k].tasks.length tc) := by rw [hw2]; exact box_at 1 rfl
    rw [<- hw2] at HBr
    have HB2 := Lib.hid (bthen HB.out HBr.out)
    obtain ⟨g, hg⟩ : ∃ g, g = wr.heap.size := ⟨_, rfl⟩
    rw [<- hg] at x0 x1
    clear hst hcell hpi HBr
    go_wp2_with (first | (rw [<- hw2, <- hg]; clear hw2 hg y0 y1 y2 hgr) | fail)
    have HX2 := Lib.hid (And.intro x0 x1)
    go_loopw [29] (fun j wr => ∃ m : Nat, m <= c.parts[k].tasks.length /\ j = .int .i64 m /\ Hid (lateFrom c 0 c.parts = ((decide (c.parts[k].level = 1) && lateTasks c k m (c.parts[k].tasks.drop m)) || lateFrom c (k + 1) (c.parts.drop (k + 1)))) /\ Below w2.heap.size w2 wr) (fun j _ => c.parts[k].tasks.length - (intOf j).toNat)
    case atStart => exact ⟨0, by omega, rfl, Lib.hid (by rw [HS.out, List.drop_zero]), Below.refl _ _⟩
    case round =>
     obtain ⟨m, hm, rfl, HM, hBm⟩ := hrel
     have HBm := Lib.hid hBm
     have x0 := Ext.below hBm _ _ x0
     have x1 := Ext.below hBm _ _ x1
     have HBn := Lib.hid (bthen HB2.out hBm)
     have HXn := Lib.hid (HX.out.ext (Ext.below (bthen HB2.out hBm)))
     clear hBm
     by_cases hml : m < c.parts[k].tasks.length
     ·have hst := lateTasks_step c k c.parts[k].tasks m hml
      have HT := Lib.hid hst
      clear hst
      have z0 := HXn.out.c0; have z1 := HXn.out.c1; have z2 := HXn.out.c2; have z3 := HXn.out.c3; have z4 := HXn.out.c4; unfold IntAt at z0 z1
      go_wp2_with fail
      refine (response_any c _ k m _ ⟨_, _, _, rfl, HXn.out.is⟩).mono ?_
      rintro e w3 ⟨rfl, hb3⟩
      have HB3 := Lib.hid (bthen HBm.out hb3)
      have x0 := Ext.below hb3 _ _ x0
      clear hb3 z0 z1 z2 z3 z4 x1 HXn
      by_cases hl : c.parts[k].level = 1
      ·have hr : respSpec c k m = respIn c k m := respSpec_in HK.out hlt hl hml
       rw [hl] at x0
       by_cases hz : (respIn c k m).2 = 0
       ·have HG2 := Lib.hid (show lateFrom c 0 c.parts = ((decide (c.parts[k].level = 1) && lateTasks c k (m + 1) (c.parts[k].tasks.drop (m + 1))) || lateFrom c (k + 1) (c.parts.drop (k + 1))) by rw [HM.out, HT.out, hz]; simp)
        have e4 : ((respSpec c k m).2 != 0) = false := by rw [hr, hz]; rfl
        clear hl hr hz
        go_wp2_with fail
        go_roundw
        case rel => exact ⟨m + 1, by omega, by go_num, HG2, HB3.out⟩
        case measure => simp [intOf]; omega
       ·have HG2 := Lib.hid (show lateFrom c 0 c.parts = true by rw [HM.out, HT.out, hl, decide_eq_true hz]; simp)
        have e4 : ((respSpec c k m).2 != 0) = true := by rw [hr]; simpa using hz
        clear hl hr hz
        go_wp2_with fail
        go_ret
        exact ⟨ret_int (by rw [HA.out, HG2.out]; rfl), bthen HB1.out (bthen HB2.out HB3.out)⟩
      ·have HG2 := Lib.hid (show lateFrom c 0 c.parts = ((decide (c.parts[k].level = 1) && lateTasks c k (m + 1) (c.parts[k].tasks.drop (m + 1))) || lateFrom c (k + 1) (c.parts.drop (k + 1))) by rw [HM.out, decide_eq_false hl]; simp)
       have e4 : (c.parts[k].level == 1) = false := by simpa using hl
       clear hl
       go_wp2_with fail
       go_roundw
       case rel => exact ⟨m + 1, by omega, by go_num, HG2, HB3.out⟩
       case measure => simp [intOf]; omega
     ·have hfin : lateFrom c 0 c.parts = lateFrom c (k + 1) (c.parts.drop (k + 1)) := by
       rw [HM.out, List.drop_of_length_le (by omega)]; simp [lateTasks]
      have HF := Lib.hid hfin
      clear hfin
      go_wp2_with fail
      go_roundw
      case rel => exact ⟨k + 1, by omega, by go_num, HF, HBn.out⟩
      case measure => simp [intOf]; omega
   ·have hfin : lateFrom c 0 c.parts = false := by
     rw [HG.out, List.drop_of_length_le (by omega)]; rfl
    have HA := Lib.hid (show admitSpec c = if noneFrom c 0 c.parts = true then 902 else 0 by rw [HA.out, hfin]; rfl)
    clear hfin HG
    have z2 := (HX.out.ext (Ext.below HB.out)).c2
    go_wp2_with fail
    clear z2
    obtain ⟨wp, rfl⟩ : ∃ wp : World, wp = wr := ⟨_, rfl⟩
    go_loopw [51] (fun j wr => ∃ k : Nat, k <= c.parts.length /\ j = .int .i64 k /\ Hid (noneFrom c 0 c.parts = noneFrom c k (c.parts.drop k)) /\ Below w1.heap.size w1 wr) (fun j _ => c.parts.length - (intOf j).toNat)
    case atStart => exact ⟨0, by omega, rfl, Lib.hid (by simp), HB.out⟩
    case round =>
     obtain ⟨k, hk, rfl, HG, hB⟩ := hrel
     have HB := Lib.hid hB
     clear hB
     by_cases hlt : k < c.parts.length
     ·obtain ⟨b, off, rfl, hcell⟩ := HP.out (by intro h; rw [h] at hlt; simp at hlt)
      obtain ⟨y0, tv, cv, y1, y2, hpi⟩ := PartAt.ext ((Ext.below HB1.out).trans (Ext.below HB.out)) (hcell k hlt)
      obtain ⟨ta, tc, rfl, t2, t3, t4, -⟩ := hpi.tasks
      obtain ⟨ca, cc, rfl, c2, c3, c4, -⟩ := hpi.code
      unfold IntAt at y0
      obtain ⟨nc, hnc⟩ : ∃ nc, nc = c.parts[k].code.length := ⟨_, rfl⟩
      obtain ⟨nt, hnt⟩ : ∃ nt, nt = c.parts[k].tasks.length := ⟨_, rfl⟩
      rw [<- hnc] at y2 c2 c3
      rw [<- hnt] at y1 t2 t3
      clear hnc hnt hpi
      have hst := noneFrom_step c c.parts k hlt
      rw [<- HG.out] at hst
      have HS := Lib.hid hst
      have hgr : b < wr.heap.size := cell_lt y0
      have HBr := Lib.hid (balloc wr (.cells #[.int .i64 c.parts[k].level, .slice ta nt tc, .slice ca nc cc] 49))
      obtain ⟨w2, hw2⟩ : ∃ w2, w2 = wr.alloc (.cells #[.int .i64 c.parts[k].level, .slice ta nt tc, .slice ca nc cc] 49) := ⟨_, rfl⟩
      have x0 : w2.cell? ⟨wr.heap.size, 0, none⟩ = some (.int .i64 c.parts[k].level) := by rw [hw2]; exact box_at 0 rfl
      rw [<- hw2] at HBr
      have HB2 := Lib.hid (bthen HB.out HBr.out)
      have HX2 := Lib.hid (HX.out.ext (Ext.below HB2.out))
      have z0 := HX2.out.c0; have z1 := HX2.out.c1; have z2 := HX2.out.c2; have z3 := HX2.out.c3; have z4 := HX2.out.c4; unfold IntAt at z0 z1
      obtain ⟨g, hg⟩ : ∃ g, g = wr.heap.size := ⟨_, rfl⟩
      rw [<- hg] at x0
      clear hst hcell HBr
      go_wp2_with (first | (rw [<- hw2, <- hg]; clear hw2 hg y0 y1 y2 hgr) | fail)
      refine (share_any c _ k _ ⟨_, _, _, rfl, HX2.out.is⟩).mono ?_
      rintro e w3 ⟨rfl, hb3⟩
      have HB3 := Lib.hid (bthen HB2.out hb3)
      have x0 := Ext.below hb3 _ _ x0
      have hsp : shareSpec c k = (shareOf k c.windows, 0) := by
       unfold shareSpec
       rw [if_neg (by have := HK.out; omega)]
      rw [hsp]
      clear hb3 z0 z1 z2 z3 z4 HX2 hsp
      by_cases hl : c.parts[k].level = 0
      ·rw [hl] at x0
       by_cases hz : shareOf k c.windows = 0
       ·have HG2 := Lib.hid (show noneFrom c 0 c.parts = true by rw [HS.out, hl, decide_eq_true hz]; simp)
        have e4 : (shareOf k c.windows == 0) = true := by rw [hz]; rfl
        clear hl hz
        go_wp2_with fail
        go_ret
        exact ⟨ret_int (by rw [HA.out, HG2.out]; rfl), bthen HB1.out HB3.out⟩
       ·have HG2 := Lib.hid (show noneFrom c 0 c.parts = noneFrom c (k + 1) (c.parts.drop (k + 1)) by rw [HS.out, decide_eq_false hz]; simp)
        have e4 : (shareOf k c.windows == 0) = false := by simpa using hz
        clear hl hz
        go_wp2_with fail
        go_roundw
        case rel => exact ⟨k + 1, by omega, by go_num, HG2, HB3.out⟩
        case measure => simp [intOf]; omega
      ·have HG2 := Lib.hid (show noneFrom c 0 c.parts = noneFrom c (k + 1) (c.parts.drop (k + 1)) by rw [HS.out, decide_eq_false hl]; simp)
       have e4 : (c.parts[k].level == 0) = false := by simpa using hl
       clear hl
       go_wp2_with fail
       go_roundw
       case rel => exact ⟨k + 1, by omega, by go_num, HG2, HB3.out⟩
       case measure => simp [intOf]; omega
     ·have hfin : noneFrom c 0 c.parts = false := by
       rw [HG.out, List.drop_of_length_le (by omega)]; rfl
      have HF := Lib.hid hfin
      clear hfin
      go_wp2_with fail
      go_ret
      exact ⟨ret_int (by rw [HA.out, HF.out]; rfl), bthen HB1.out HB.out⟩
 ·have HA := Lib.hid (show admitSpec c = checkCfg c by unfold admitSpec; rw [if_pos hk])
  have e1 : (checkCfg c != 0) = true := by simpa using hk
  clear hk
  go_wp2_with fail
  go_ret
  exact ⟨ret_int HA.out.symm, HB1.out⟩
end Go.Proofs.YtooeeiiiflfckaaGreat
