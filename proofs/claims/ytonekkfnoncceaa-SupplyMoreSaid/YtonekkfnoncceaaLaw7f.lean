/- The law SupplyMore: a window given to the part leaves its least no less. -/
import Derived.Test.YtonekkfnoncceaaLaw7e
import Derived.Test.YtonekkfnoncceaaLeast
import Derived.Test.YtonekkfnoncceaaTail
set_option linter.unusedVariables false
set_option linter.unusedSimpArgs false
namespace Go.Proofs.Ytonekkfnoncceaa
open Go.RowKit

/-- The windows, the i-th given to p. -/
def give (p : Int) : Nat → List Window → List Window
  | 0, [] => []
  | _ + 1, [] => []
  | 0, x :: r => ⟨x.from_, x.to_, p⟩ :: r
  | i + 1, x :: r => x :: give p i r
theorem give_len (p : Int) : ∀ (i : Nat) (ws : List Window), (give p i ws).length = ws.length
  | 0, [] => rfl
  | _ + 1, [] => rfl
  | 0, _ :: _ => rfl
  | i + 1, _ :: r => by simp [give, give_len p i r]
theorem give_wins (p f n : Int) (h0 : 0 ≤ p) (h1 : p < n) : ∀ (i : Nat) (ws : List Window) (e : Int), winsFrom f n e ws = true → winsFrom f n e (give p i ws) = true
  | 0, [], _, h => h
  | _ + 1, [], _, h => h
  | 0, x :: r, e, h => by
    simp only [winsFrom, give, Bool.and_eq_true, decide_eq_true_eq] at h ⊢
    exact ⟨by omega, h.2⟩
  | i + 1, x :: r, e, h => by
    simp only [winsFrom, give, Bool.and_eq_true, decide_eq_true_eq] at h ⊢
    exact ⟨h.1, give_wins p f n h0 h1 i r _ h.2⟩
theorem give_owner (p t : Int) : ∀ (i : Nat) (ws : List Window), ownerAt t ws = p → ownerAt t (give p i ws) = p
  | 0, [], h => h
  | _ + 1, [], h => h
  | 0, x :: r, h => by
    simp only [ownerAt, give] at h ⊢
    split
    · rfl
    · rename_i hn; rw [if_neg hn] at h; exact h
  | i + 1, x :: r, h => by
    simp only [ownerAt, give] at h ⊢
    split
    · rename_i hn; rw [if_pos hn] at h; exact h
    · rename_i hn; rw [if_neg hn] at h; exact give_owner p t i r h
def giveCfg (c : Config) (p : Int) (i : Nat) : Config := { c with windows := give p i c.windows }
theorem give_check (c : Config) (p : Int) (i : Nat) (h0 : 0 ≤ p) (h1 : p < c.parts.length) (hk : checkCfg c = 0) : checkCfg (giveCfg c p i) = 0 := by
  have ho := check_ok hk
  have hw : windowsMay (giveCfg c p i) = windowsMay c := by
    have e1 : windowsMay c = true := by
      unfold windowsMay
      rw [ho.2.2.2.2.2.2.2]
      simp
      exact ho.2.2.2.2.2.2.1
    rw [e1]
    unfold windowsMay giveCfg
    simp only [Bool.and_eq_true, decide_eq_true_eq]
    rw [give_len]
    exact ⟨give_wins p _ _ h0 h1 i _ _ ho.2.2.2.2.2.2.2, ho.2.2.2.2.2.2.1⟩
  unfold checkCfg at hk ⊢
  rw [hw]
  exact hk
theorem give_cnt (c : Config) (p : Int) (i t r : Nat) : cnt c p (t + r) - cnt c p t ≤ cnt (giveCfg c p i) p (t + r) - cnt (giveCfg c p i) p t := by
  induction r with
  | zero => simp
  | succ r ih =>
    rw [← Nat.add_assoc, cnt_step, cnt_step]
    have hf : (giveCfg c p i).frame = c.frame := rfl
    have hw : (giveCfg c p i).windows = give p i c.windows := rfl
    rw [hf, hw]
    by_cases h : ownerAt (((t + r : Nat) : Int) % c.frame) c.windows = p
    · rw [if_pos h, if_pos (give_owner p _ i _ h)]
      omega
    · rw [if_neg h]
      split <;> omega
theorem give_least (c : Config) (p : Int) (i F L : Nat) (hF : c.frame = F) (h0 : 0 < F) : leastN c p L ≤ leastN (giveCfg c p i) p L := by
  obtain ⟨s, hs, e⟩ := leastN_get (giveCfg c p i) p F hF h0 L
  have h1 := leastN_le_at c p F hF h0 L s
  have h2 := give_cnt c p i s L
  omega
theorem give_get (p : Int) : ∀ (m i : Nat) (ws : List Window) (h : i < ws.length) (h' : i < (give p m ws).length), (give p m ws)[i] = if i = m then ⟨ws[i].from_, ws[i].to_, p⟩ else ws[i]
  | 0, 0, x :: r, _, _ => rfl
  | 0, i + 1, x :: r, _, _ => rfl
  | m + 1, 0, x :: r, _, _ => rfl
  | m + 1, i + 1, x :: r, h, h' => by
    have := give_get p m i r (by simpa using h) (by simpa [give] using h')
    simp only [give, List.getElem_cons_succ, this]
    by_cases e : i = m
    · rw [if_pos e, if_pos (by omega)]
    · rw [if_neg e, if_neg (by omega)]
theorem give_at {W : World} {b cap : Nat} {ws : List Window} {p : Int} {m : Nat} (h : WindowsV W (.slice (some ⟨b, 0, none⟩) ws.length cap) ws) (hm : m < ws.length) :
    WindowsV (W.setCell ⟨b, m * 3 + 2, none⟩ (.int .i64 p)) (.slice (some ⟨b, 0, none⟩) ws.length cap) (give p m ws) := by
  obtain ⟨a, cap', e, h2, h3, h4, h5⟩ := h
  injection e with e1 e2 e3
  subst e1; subst e3
  obtain ⟨b', off, e, hc⟩ := h5 (by intro e; rw [e] at hm; simp at hm)
  injection e with e
  injection e with e1 e2
  subst e1; subst e2
  refine ⟨_, cap, by rw [give_len], by rw [give_len]; exact h2, by rw [give_len]; exact h3, h4, fun _ => ⟨b, 0, rfl, fun i hi => ?_⟩⟩
  have hi' : i < ws.length := by rw [give_len] at hi; exact hi
  obtain ⟨x0, x1, x2⟩ := hc i hi'
  unfold IntAt at x0 x1 x2
  rw [give_get p m i ws hi' hi]
  have far : ∀ j v, j ≠ m * 3 + 2 → W.cell? ⟨b, j, none⟩ = some v → (W.setCell ⟨b, m * 3 + 2, none⟩ (.int .i64 p)).cell? ⟨b, j, none⟩ = some v := by
    intro j v hj hv
    rw [World.cell?_setCell_other _ _ _ _ (by intro e; injection e with _ e _; omega)]
    exact hv
  by_cases e : i = m
  · subst e
    rw [if_pos rfl]
    refine ⟨far _ _ (by omega) x0, far _ _ (by omega) x1, ?_⟩
    unfold IntAt
    rw [Nat.zero_add] at x2 ⊢
    exact World.cell?_setCell_same _ _ _ x2
  · rw [if_neg e]
    exact ⟨far _ _ (by omega) x0, far _ _ (by omega) x1, far _ _ (by omega) x2⟩
theorem CfgOwn.give {w W : World} {B : Nat} {pv ov : Value} {b cap : Nat} {c : Config} (h : CfgOwn w W B pv (.slice (some ⟨b, 0, none⟩) c.windows.length cap) ov c) (hw : Ext w W) (p : Int) (m : Nat) (hm : m < c.windows.length)
    (hw' : Ext w (W.setCell ⟨b, m * 3 + 2, none⟩ (.int .i64 p))) : CfgIs (W.setCell ⟨b, m * 3 + 2, none⟩ (.int .i64 p)) pv (.slice (some ⟨b, 0, none⟩) c.windows.length cap) ov (giveCfg c p m) := by
  obtain ⟨nw, w1, w2⟩ := h.windows
  obtain ⟨no, o1, o2⟩ := h.ports
  have hg := set_grown W b (m * 3 + 2) (.int .i64 p)
  have hty : ∀ g, some b = some g → Typed W g 41 := fun g hg => own_typed w1 (by rw [← hg]; rfl)
  have hwin := give_at (p := p) (w2 _ _ _ hw w1) hm
  rw [← give_len p m] at hwin
  refine ⟨(h.parts.apart hg hty (by decide) (by decide) (by decide)).parts hw' h.room, ?_, o2 _ _ _ hw' (own_apart o1 hg hty (by decide))⟩
  rw [give_len] at hwin
  exact hwin
/-- What each operation of the region that gives the window yields. -/
def MoreV (gd : Nat) (wv : Value) (n : Nat) (re p : Int) (b m : Nat) (i : Nat) (v : Value) (_ : World) : Prop :=
  match i with
  | 0 | 4 => v = .pointer (some ⟨gd, 3, none⟩)
  | 1 | 5 => v = wv
  | 2 => v = .int .i64 re
  | 3 => v = .int .u64 (IntKind.u64.wrap re)
  | 6 => v = .int .i64 n
  | 7 => v = .int .u64 n
  | 8 => v = .int .u64 m
  | 9 => v = .int .i64 m
  | 10 => v = .int .i64 p
  | 11 => v = .pointer (some ⟨b, m * 3, none⟩)
  | 12 => v = .pointer (some ⟨b, m * 3 + 2, none⟩)
  | _ + 13 => True
set_option maxRecDepth 100000 in
set_option maxHeartbeats 1600000 in
theorem supplyMore_any (c : Config) (v : Value) (p mo re : Int) (w : World) (hc : CfgV w v c) :
    Calls Try.prog 6 #[v, .int .i64 p, .int .i64 mo, .int .i64 re] w fun e w' => e = .returned (.bool true) ∧ Below w.heap.size w w' := by
  obtain ⟨pv, wv, ov, rfl, hcfg⟩ := hc
  have HB0 := Lib.hid (balloc w (.cells #[.int .i64 c.frame, .int .i64 c.quiet, pv, wv, ov] 26))
  have HC0 := Lib.hid (cfg_box w c _ _ _ 26 hcfg)
  obtain ⟨k, hk0⟩ := Int.eq_ofNat_of_zero_le (show 0 ≤ bits BinOp.and IntKind.i64 mo 255 by rw [i64_and255]; omega)
  have hk8 : k ≤ 255 := by have := i64_and255 mo; omega
  clear hcfg
  go_enter Try.func6, Try.ntmps6
  go_wp2_with fail
  refine (awake7_any _).mono ?_
  rintro e w1 ⟨rfl, hb1⟩
  have HB1 := Lib.hid (bthen HB0.out hb1)
  have HC1 := Lib.hid (HC0.out.ext (Ext.below hb1))
  clear hb1 HB0 HC0
  have z0 := HC1.out.c0; have z1 := HC1.out.c1; have z2 := HC1.out.c2; have z3 := HC1.out.c3; have z4 := HC1.out.c4; unfold IntAt at z0 z1
  go_wp2_with fail
  refine (least_any c _ p k _ ⟨_, _, _, rfl, HC1.out.is⟩).mono ?_
  rintro e w2 ⟨rfl, hb2⟩
  have HB2 := Lib.hid (bthen HB1.out hb2)
  have HC2 := Lib.hid (HC1.out.ext (Ext.below hb2))
  clear hb2 HB1 HC1 z0 z1 z2 z3 z4
  by_cases hs : checkCfg c = 0 ∧ 0 ≤ p ∧ p < c.parts.length
  · obtain ⟨hk, hp0, hp1⟩ := hs
    have ho := check_ok hk
    obtain ⟨o1, o2, -, -, -, -, o7, -⟩ := ho
    obtain ⟨F, hF⟩ := Int.eq_ofNat_of_zero_le (show 0 ≤ c.frame by omega)
    rw [leastSpec_ok c p k hk hp0 hp1 (by omega)]
    have HK := Lib.hid hk
    have HF := Lib.hid hF
    have F1 : 0 < F := by omega
    clear hk o1 o2 hF
    obtain ⟨wa, wk, rfl⟩ : ∃ wa wk, wv = .slice wa c.windows.length wk := by
      obtain ⟨pa, pk, wa, wk, oa, ok, h1, h2, h3⟩ := HC2.out.is.shape
      exact ⟨_, _, h2⟩
    have z0 := HC2.out.c0; have z1 := HC2.out.c1; have z2 := HC2.out.c2; have z3 := HC2.out.c3; have z4 := HC2.out.c4; unfold IntAt at z0 z1
    by_cases hn : c.windows.length = 0
    · go_wp2_with (first | (go_at_call 12; refine (num_any _ _).mono ?_; rintro e w' ⟨rfl, hw⟩; subst w') | fail)
      go_ret
      exact ⟨rfl, HB2.out⟩
    · have HN := Lib.hid hn
      have hn1 : 1 ≤ c.windows.length := by omega
      clear hn
      go_wp2_with (first | (go_at_call 12; refine (num_any _ _).mono ?_; rintro e w' ⟨rfl, hw⟩; subst w') | fail)
      refine (copyCfg_own c _ _ ⟨_, _, _, rfl, HC2.out.is⟩).mono ?_
      rintro e w3 ⟨pn, wn, on, rfl, hown, hb3⟩
      obtain ⟨nw, r1, -⟩ := hown.windows
      obtain ⟨b, kw, rfl, -, -, -⟩ := ownsRow_some r1 (by omega)
      obtain ⟨no, r2, -⟩ := hown.ports
      obtain ⟨ao, ko, rfl⟩ := own_shape r2
      obtain ⟨L, r3, -⟩ := hown.parts
      obtain ⟨ap, kp, rfl⟩ := own_shape r3
      have HB3 := Lib.hid (bthen HB2.out hb3)
      have HC3 := Lib.hid (Ext.below hb3)
      have HB2' := HB2
      have HW := Lib.hid hown
      clear r1 r2 r3 hown hb3 z0 z1 z2 z3 z4 HB2
      go_wp2_with fail
      obtain ⟨wz, hwz⟩ : ∃ wz, wz = w3.alloc (.cells #[.int .i64 c.frame, .int .i64 c.quiet, .slice ap c.parts.length kp, .slice (some ⟨b, 0, none⟩) c.windows.length kw, .slice ao c.ports.length ko] 26) := ⟨_, rfl⟩
      obtain ⟨gd, hgd⟩ : ∃ gd, gd = w3.heap.size := ⟨_, rfl⟩
      have hbz : Below w3.heap.size w3 wz := by rw [hwz]; exact balloc _ _
      have hblk : wz.heap[gd]? = some (.cells #[.int .i64 c.frame, .int .i64 c.quiet, .slice ap c.parts.length kp, .slice (some ⟨b, 0, none⟩) c.windows.length kw, .slice ao c.ports.length ko] 26 (0, 0)) := by rw [hwz, hgd]; exact blk_new _ _
      rw [← hwz, ← hgd]
      clear hwz
      obtain ⟨n, hn⟩ : ∃ n, n = c.windows.length := ⟨_, rfl⟩
      rw [← hn] at hn1 o7 hblk
      refine region_tail 13 (by kernel_rfl) (by kernel_rfl) ?_
      intro wy hy hby
      have y3 : wy.cell? ⟨gd, 3, none⟩ = some (.slice (some ⟨b, 0, none⟩) n kw) := by rw [cell_of_heap hy]; exact BlockIs.of hblk 3 _ rfl
      rw [← hn]
      obtain ⟨r, hr⟩ := Int.eq_ofNat_of_zero_le (show 0 ≤ IntKind.u64.wrap re by rw [IntKind.wrap_u64]; omega)
      have hmn : r % n < n := Nat.mod_lt _ (by omega)
      have hm1 : (r : Int).tmod (n : Int) = ((r % n : Nat) : Int) := by rw [Int.tmod_eq_emod_of_nonneg (by omega)]; rfl
      have hm2 : (r : Int) % (n : Int) = ((r % n : Nat) : Int) := rfl
      obtain ⟨m, hm⟩ : ∃ m, r % n = m := ⟨_, rfl⟩
      rw [hm] at hm1 hm2 hmn
      have n0 : ((n : Int) == 0) = false := by simp; omega
      have w1' : IntKind.u64.wrap (n : Int) = (n : Int) := by rw [IntKind.wrap_u64]; omega
      have w2' : IntKind.u64.wrap (m : Int) = (m : Int) := by rw [IntKind.wrap_u64]; omega
      have w3' : IntKind.i64.wrap (m : Int) = (m : Int) := by rw [IntKind.wrap_i64]; omega
      have HY := Lib.hid (And.intro hy hby)
      have HM := Lib.hid hm
      have HNN := Lib.hid hn
      have HBZ := Lib.hid hbz
      have HBK := Lib.hid hblk
      have HGD := Lib.hid hgd
      clear hy hby hm hn hbz hblk hgd
      simp only [List.take_succ_cons, List.take_zero, List.drop_succ_cons, List.drop_zero]
      have nz : n ≠ 0 := by omega
      have hb3y : Below w3.heap.size w3 wy := bthen HBZ.out HY.out.2
      have h2y : Ext w2 wy := HC3.out.trans (Ext.below hb3y)
      have hown2 := HW.out.below hb3y
      obtain ⟨nw', r1, r2⟩ := hown2.windows
      obtain ⟨b', kw', hbe, hb2, -, -⟩ := ownsRow_some r1 (by rw [← HNN.out]; omega)
      injection hbe with hbe hbe2 hbe3
      injection hbe with hbe
      injection hbe with hbe
      subst hbe
      subst hbe3
      obtain ⟨cur, hcur⟩ := own_typed r1 (g := b) rfl
      have hbl : b < gd := by
        have h3 := HW.out
        obtain ⟨nw2, q1, -⟩ := h3.windows
        obtain ⟨cur2, hcur2⟩ := own_typed q1 (g := b) rfl
        rw [HGD.out]
        exact lt_of_block hcur2
      have hfz : wy.frozen? ⟨b, m * 3 + 2, none⟩ = false := by unfold World.frozen?; rw [hcur]; simp
      obtain ⟨x, hx⟩ : ∃ x, wy.cell? ⟨b, m * 3 + 2, none⟩ = some (.int .i64 x) := by
        obtain ⟨a0, cap0, e0, -, -, -, h5⟩ := r2 wy _ _ h2y r1
        obtain ⟨b0, off0, e1, hc0⟩ := h5 (by intro e; rw [← List.length_eq_zero_iff, ← HNN.out] at e; omega)
        injection e0 with e0
        subst e1
        injection e0 with e0
        injection e0 with e0 e2
        subst e0; subst e2
        have := (hc0 m (by rw [← HNN.out]; exact hmn)).2.2
        rw [Nat.zero_add] at this
        exact ⟨_, this⟩
      have hgive := hown2.give h2y p m (by rw [← HNN.out]; exact hmn) (fun a v h => by
        rw [World.cell?_setCell_other _ _ _ _ (by
          have := cell_lt h
          rintro rfl
          simp at this
          omega)]
        exact h2y a v h)
      have hgw := set_grown wy b (m * 3 + 2) (.int .i64 p)
      have hbw : Below w.heap.size w (wy.setCell ⟨b, m * 3 + 2, none⟩ (.int .i64 p)) := by
        have h1 := bthen HB3.out hb3y
        refine h1.grown hgw h1.size (fun k hk => ?_)
        injection hk with hk
        have := HB2'.out.size
        omega
      have hbkW : (wy.setCell ⟨b, m * 3 + 2, none⟩ (.int .i64 p)).heap[gd]? = some (.cells #[.int .i64 c.frame, .int .i64 c.quiet, .slice ap c.parts.length kp, .slice (some ⟨b, 0, none⟩) n kw, .slice ao c.ports.length ko] 26 (0, 0)) := by
        rw [Below.heap_setCell _ _ _ _ (by simp; omega), HY.out.1]
        exact HBK.out
      have HGV := Lib.hid hgive
      have HBW := Lib.hid hbw
      have HBKW := Lib.hid hbkW
      have HX := Lib.hid hx
      have HFZ := Lib.hid hfz
      have y0 : wy.cell? ⟨gd, 0, none⟩ = some (.int .i64 c.frame) := by rw [cell_of_heap HY.out.1]; exact BlockIs.of HBK.out 0 _ rfl
      have y1 : wy.cell? ⟨gd, 1, none⟩ = some (.int .i64 c.quiet) := by rw [cell_of_heap HY.out.1]; exact BlockIs.of HBK.out 1 _ rfl
      have y2 : wy.cell? ⟨gd, 2, none⟩ = some (.slice ap c.parts.length kp) := by rw [cell_of_heap HY.out.1]; exact BlockIs.of HBK.out 2 _ rfl
      have y4 : wy.cell? ⟨gd, 4, none⟩ = some (.slice ao c.ports.length ko) := by rw [cell_of_heap HY.out.1]; exact BlockIs.of HBK.out 4 _ rfl
      have hne : gd ≠ b := by omega
      clear hb3y h2y hown2 r1 r2 hb2 hcur hgive hgw hbw hbkW
      repeat still_step
      refine wpStill_nil ?_
      go_wp2_with fail
      have hgl := give_check c p m hp0 hp1 HK.out
      have LS := leastSpec_ok (giveCfg c p m) p k hgl hp0 hp1 (by omega)
      have hle := give_least c p m F k HF.out F1
      obtain ⟨l2, hl2⟩ : ∃ l2, l2 = leastN (giveCfg c p m) p k := ⟨_, rfl⟩
      rw [← hl2] at LS hle
      have HLS := Lib.hid LS
      have HLE := Lib.hid hle
      refine (least_any (giveCfg c p m) _ p k _ ⟨_, _, _, rfl, by rw [HNN.out]; exact HGV.out⟩).mono ?_
      rw [HLS.out]
      rintro e w5 ⟨rfl, hb5⟩
      have HB5 := Lib.hid (bthen HBW.out hb5)
      clear hb5 hgl LS hl2 hx hfz y0 y1 y2 y3 y4
      go_wp2_with (first | (go_at_call 12; refine (num_any _ _).mono ?_; rintro e w' ⟨rfl, hw⟩; subst w') | fail)
      go_ret
      exact ⟨ret_bool (by simp), HB5.out⟩
  · have hS : leastSpec c p (k : Int) = (0, 700) := by unfold leastSpec; rw [if_pos (by omega)]
    rw [hS]
    clear hs hS
    go_wp2_with (first | (go_at_call 12; refine (num_any _ _).mono ?_; rintro e w' ⟨rfl, hw⟩; subst w') | fail)
    all_goals
      go_ret
      exact ⟨rfl, HB2.out⟩
end Go.Proofs.Ytonekkfnoncceaa
