/- The law AuditModes: in mode high nobody owns a tick of a low window; a row that tells of an over is high. -/
import Derived.Test.YtfhebonhcolbdaaLaw24d
set_option linter.unusedVariables false
set_option linter.unusedSimpArgs false
namespace Go.Proofs.Ytfhebonhcolbdaa
open Go.RowKit

theorem i64_and1' (x : Int) : ∃ g : Int, bits BinOp.and IntKind.i64 x 1 = g ∧ (g = 0 ∨ g = 1) := ⟨_, rfl, by rw [i64_and1]; omega⟩
theorem modes1 (o A B : Int) (ov : Bool) (ho : o = -1 ∨ o = 0 ∨ o = 1) (hA : A = 0 ∨ A = 1) (hB : B = 0 ∨ B = 1) :
    auditSpec plainCfg [⟨5, -1, false, A, []⟩, ⟨6, o, false, B, if ov = true then [⟨4, 0, 0, 0⟩] else []⟩] = if (o = -1 ∨ (o = 1 ∧ A = 0)) ∧ (ov = false ∨ B = 1) then 0 else 2401 := by
  rcases ho with rfl | rfl | rfl <;> rcases hA with rfl | rfl <;> rcases hB with rfl | rfl <;> cases ov <;> decide +kernel
theorem modes2 (o A B : Int) (ov : Bool) (ho : o = -1 ∨ o = 0 ∨ o = 1) (hA : A = 0 ∨ A = 1) (hB : B = 0 ∨ B = 1) :
    auditSpec plainCfg [⟨5, -1, false, A, []⟩, ⟨6, o, false, B, ⟨0, -1, -1, 0⟩ :: if ov = true then [⟨4, 0, 0, 0⟩] else []⟩] = if (o = -1 ∨ o = 1) ∧ (ov = false ∨ B = 1) then 0 else 2401 := by
  rcases ho with rfl | rfl | rfl <;> rcases hA with rfl | rfl <;> rcases hB with rfl | rfl <;> cases ov <;> decide +kernel
def evCells (es : List Event) : List Value := es.flatMap fun x => [.int .i64 x.kind, .int .i64 x.part, .int .i64 x.task, .int .i64 x.value]
theorem evCells_get : ∀ (es : List Event) (i : Nat) (h : i < es.length), (evCells es)[i * 4]? = some (.int .i64 es[i].kind) ∧ (evCells es)[i * 4 + 1]? = some (.int .i64 es[i].part) ∧ (evCells es)[i * 4 + 2]? = some (.int .i64 es[i].task) ∧ (evCells es)[i * 4 + 3]? = some (.int .i64 es[i].value)
  | x :: r, 0, _ => by simp [evCells]
  | x :: r, i + 1, h => by
    have := evCells_get r i (by simpa using h)
    have e : evCells (x :: r) = [.int .i64 x.kind, .int .i64 x.part, .int .i64 x.task, .int .i64 x.value] ++ evCells r := by simp [evCells]
    rw [e]
    have e3 : [Value.int .i64 x.kind, .int .i64 x.part, .int .i64 x.task, .int .i64 x.value].length = 4 := rfl
    rw [List.getElem?_append_right (by rw [e3]; omega), List.getElem?_append_right (by rw [e3]; omega), List.getElem?_append_right (by rw [e3]; omega), List.getElem?_append_right (by rw [e3]; omega)]
    rw [e3, show (i + 1) * 4 - 4 = i * 4 by omega, show (i + 1) * 4 + 1 - 4 = i * 4 + 1 by omega, show (i + 1) * 4 + 2 - 4 = i * 4 + 2 by omega, show (i + 1) * 4 + 3 - 4 = i * 4 + 3 by omega]
    simpa using this
theorem evRow {W : World} {B n : Nat} {v : Value} {es : List Event} (hl : es.length = n) (h : W.ownsRow B 49 4 v n (evCells es)) (hn : n * 32 ≤ 140737488351232) : EventsV W v es := by
  subst hl
  by_cases hx : es = []
  · subst hx
    rcases h.2 with ⟨e, _⟩ | ⟨g, cap', cur, e, _, _, hn, hm, _⟩
    · rw [e]; exact slice0 _ _ _ _
    · rw [e]; exact ⟨_, cap', rfl, by simp, hn, hm, fun h => absurd rfl h⟩
  · have hpos : 0 < es.length := List.length_pos_iff.2 hx
    obtain ⟨g, cap', e, hg, hn', hm⟩ := ownsRow_some h hpos
    rw [e] at h ⊢
    refine ⟨_, cap', rfl, hn, hn', hm, fun _ => ⟨g, 0, rfl, fun i hi => ?_⟩⟩
    obtain ⟨a1, a2, a3, a4⟩ := evCells_get es i hi
    refine ⟨?_, ?_, ?_, ?_⟩
    · unfold IntAt; rw [Nat.zero_add, h.cellAt _ (by omega)]; exact a1
    · unfold IntAt; rw [Nat.zero_add, h.cellAt _ (by omega)]; exact a2
    · unfold IntAt; rw [Nat.zero_add, h.cellAt _ (by omega)]; exact a3
    · unfold IntAt; rw [Nat.zero_add, h.cellAt _ (by omega)]; exact a4

set_option maxRecDepth 100000 in
set_option maxHeartbeats 12000000 in
theorem auditModes_true (ow was now : Int) (w : World) :
    Calls Try.prog 5 #[.int .i64 ow, .int .i64 was, .bool true, .int .i64 now] w fun e w' => e = .returned (.bool true) ∧ Below w.heap.size w w' := by
  obtain ⟨A, ha, hA⟩ := i64_and1' was
  obtain ⟨B, hb, hB⟩ := i64_and1' now
  obtain ⟨m, hm0, hm1⟩ := mod_u64 ow 3 (by decide)
  rw [show ((3 : Nat) : Int) = 3 from rfl] at hm0
  obtain ⟨o, ho⟩ : ∃ o : Int, o = (m : Int) - 1 := ⟨_, rfl⟩
  have ho2 : (m : Int) - 1 = o := ho.symm
  have ho3 : IntKind.i64.wrap o = o := by rw [IntKind.wrap_i64]; omega
  have hO := Lib.hid (show o = -1 ∨ o = 0 ∨ o = 1 by omega)
  have HA := Lib.hid hA
  have HB := Lib.hid hB
  clear ho hA hB
  go_enter Try.func5, Try.ntmps5
  go_wp2_with fail
  refine (awake24_any w).mono ?_
  rintro e w0 ⟨rfl, hb0⟩
  have HB0 := Lib.hid hb0
  clear hb0
  go_wp2_with fail
  refine (plain24_any w0).mono ?_
  rintro e w1 ⟨v, rfl, hc, hb1⟩
  obtain ⟨pv, wv, ov, rfl, hcfg⟩ := hc
  obtain ⟨pa, pk, wa, wk, oa, ok, rfl, rfl, rfl⟩ := hcfg.shape
  have HB1 := Lib.hid (bthen HB0.out hb1)
  have HC := Lib.hid hcfg
  clear hb1 hcfg HB0
  go_wp2_with fail
  obtain ⟨W2, hW2⟩ : ∃ W2, W2 = ((w1.alloc (.cells #[.int .i64 plainCfg.frame, .int .i64 plainCfg.quiet, .slice pa plainCfg.parts.length pk, .slice wa plainCfg.windows.length wk, .slice oa plainCfg.ports.length ok] 26)).alloc (.cells #[.int .i64 5, .int .i64 (-1), .bool false, .int .i64 A, .slice none 0 0, .int .i64 6, .int .i64 o, .bool false, .int .i64 B, .slice (some ⟨w1.heap.size + 1 + 1, 0, none⟩) 1 1] 45)).alloc (.cells #[.int .i64 4, .int .i64 0, .int .i64 0, .int .i64 0] 49) := ⟨_, rfl⟩
  have hbw : Below w.heap.size w W2 := by rw [hW2]; exact bthen HB1.out (bthen (balloc _ _) (bthen (balloc _ _) (balloc _ _)))
  have hcx : CfgC W2 w1.heap.size (.slice pa plainCfg.parts.length pk) (.slice wa plainCfg.windows.length wk) (.slice oa plainCfg.ports.length ok) plainCfg := by rw [hW2]; exact (cfg_box w1 plainCfg _ _ _ 26 HC.out).ext ((Ext.alloc _ _).trans (Ext.alloc _ _))
  have hbr : W2.heap[w1.heap.size + 1]? = some (.cells #[.int .i64 5, .int .i64 (-1), .bool false, .int .i64 A, .slice none 0 0, .int .i64 6, .int .i64 o, .bool false, .int .i64 B, .slice (some ⟨w1.heap.size + 1 + 1, 0, none⟩) 1 1] 45 (0, 0)) := by rw [hW2]; simp only [heap_push, Array.getElem?_push, Array.size_push]; simp
  have hbe : W2.heap[w1.heap.size + 1 + 1]? = some (.cells #[.int .i64 4, .int .i64 0, .int .i64 0, .int .i64 0] 49 (0, 0)) := by rw [hW2]; simp only [heap_push, Array.getElem?_push, Array.size_push]; simp
  rw [← hW2]
  obtain ⟨wz, hwz⟩ : ∃ wz, wz = w1.alloc (.cells #[.int .i64 plainCfg.frame, .int .i64 plainCfg.quiet, .slice pa plainCfg.parts.length pk, .slice wa plainCfg.windows.length wk, .slice oa plainCfg.ports.length ok] 26) := ⟨_, rfl⟩
  have HCZ0 := cfg_box w1 plainCfg _ _ _ 26 HC.out
  rw [← hwz] at HCZ0
  have HEZ : Hid (Ext wz W2) := Lib.hid (by rw [hW2, hwz]; exact (Ext.alloc _ _).trans (Ext.alloc _ _))
  obtain ⟨g, hg⟩ : ∃ g, g = w1.heap.size := ⟨_, rfl⟩
  obtain ⟨q, hq⟩ : ∃ q, q = g + 1 := ⟨_, rfl⟩
  have hqz : wz.heap.size ≤ q := by rw [hwz, hq, hg]; simp
  rw [← hg] at HCZ0
  have HCZ := Lib.hid HCZ0
  obtain ⟨eb, heb⟩ : ∃ eb, eb = q + 1 := ⟨_, rfl⟩
  rw [← hg, ← hq, ← heb] at hbe
  rw [← hg] at hcx
  rw [← hg, ← hq, ← heb] at hbr
  rw [← hg, ← hq]
  have hgq : g ≠ q := by omega
  have hwq : w.heap.size ≤ q := by have := HB1.out.size; omega
  have HCX := Lib.hid hcx
  have HK := Lib.hid hbr
  have HBW := Lib.hid hbw
  have HE := Lib.hid hbe
  clear hbw hcx hbr hW2 hwz hg hq hbe heb HC HB1 HCZ0
  have HEVV : Hid (∀ W, W.heap[eb]? = some (.cells #[.int .i64 4, .int .i64 0, .int .i64 0, .int .i64 0] 49 (0, 0)) → EventsV W (.slice (some ⟨eb, 0, none⟩) 1 1) [⟨4, 0, 0, 0⟩]) := Lib.hid (fun W h => slice1 (by decide) (show EventAt W eb 0 ⟨4, 0, 0, 0⟩ from ⟨BlockIs.of h 0 _ rfl, BlockIs.of h 1 _ rfl, BlockIs.of h 2 _ rfl, BlockIs.of h 3 _ rfl⟩))
  have HR : Hid (RowsV W2 (.slice (some ⟨q, 0, none⟩) 2 2) [⟨5, -1, false, A, []⟩, ⟨6, o, false, B, [⟨4, 0, 0, 0⟩]⟩]) := Lib.hid (by
    have hB := BlockIs.of HK.out
    exact slice2 (by decide) (row_of hB _ rfl rfl rfl rfl rfl rfl) ⟨hB 5 _ rfl, hB 6 _ rfl, hB 7 _ rfl, hB 8 _ rfl, _, hB 9 _ rfl, HEVV.out _ HE.out⟩)
  refine (rows_any plainCfg _ _ [⟨5, -1, false, A, []⟩, ⟨6, o, false, B, [⟨4, 0, 0, 0⟩]⟩] _ ⟨_, _, _, rfl, HCX.out.is⟩ HR.out).mono ?_
  have M1 := modes1 o A B true hO.out HA.out HB.out
  have M2 := modes2 o A B true hO.out HA.out HB.out
  simp only [if_true, if_false, Bool.false_eq_true, Bool.true_eq_false, reduceIte] at M1 M2
  rw [M1]
  have HM2 := Lib.hid M2
  clear M1 M2 HR
  obtain ho := hO.out
  obtain hA := HA.out
  obtain hB := HB.out
  rcases ho with rfl | rfl | rfl <;> rcases hA with rfl | rfl <;> rcases hB with rfl | rfl
  · rw [if_neg (by decide)]
    rintro e w3 ⟨rfl, hb3⟩
    have HB3 := Lib.hid (bthen HBW.out hb3)
    have HEZ3 := Lib.hid (HEZ.out.trans (Ext.below hb3))
    have HK3 := Lib.hid (keep_blk HK.out hb3)
    have HE3 := Lib.hid (keep_blk HE.out hb3)
    clear HE
    clear hb3 HBW HCX HK HEZ hO HA HB
    have hlit : (w3.alloc (.cells #[.int .i64 0, .int .i64 (-1), .int .i64 (-1), .int .i64 0] 49)).ownsRow w3.heap.size 49 4 (.slice (some ⟨w3.heap.size, 0, none⟩) 1 1) 1 [.int .i64 0, .int .i64 (-1), .int .i64 (-1), .int .i64 0] := World.ownsRow_lit w3 #[.int .i64 0, .int .i64 (-1), .int .i64 (-1), .int .i64 0] 1 (Nat.le_refl _) (by decide) rfl
    have HLT := Lib.hid hlit
    have r9 := BlockIs.of HK3.out 9 _ rfl
    have hq3 : q < w3.heap.size := lt_of_block HK3.out
    clear hlit
    go_wp2_with (at_builtin; refine wpList_onto _ rfl (.tmp 65) (.tmp 69) 43 rfl w3.heap.size 49 _ 4 32 Try.underlying43 infoEvent rfl (by decide) _ 1 _ rfl HLT.out 1 [.int .i64 4, .int .i64 0, .int .i64 0, .int .i64 0] (.inr ⟨⟨eb, 0, none⟩, 1, rfl, fun j u hu => by rw [addr_add, Nat.zero_add]; exact Ext.alloc _ _ _ _ (BlockIs.of HE3.out j u (by simpa using hu))⟩) rfl (by simp [Value.oneCell']) (by decide) (by decide) (by simp) ?_)
    intro v' w4 hown4 hg4
    have hr4 : ∀ b, (Value.slice (some ⟨w3.heap.size, 0, none⟩) 1 1).ownBlock = some b → Typed (w3.alloc (.cells #[.int .i64 0, .int .i64 (-1), .int .i64 (-1), .int .i64 0] 49)) b 49 := fun b hb => own_typed HLT.out hb
    have hk4 := typed_apart (keep_blk HK3.out (balloc w3 (.cells #[.int .i64 0, .int .i64 (-1), .int .i64 (-1), .int .i64 0] 49))) hg4 hr4 (by decide)
    have hb4 : Below w3.heap.size w3 w4 := (balloc w3 _).grown hg4 (by simp) (fun k hk => by simp [Value.ownBlock] at hk; omega)
    obtain ⟨va, vc, hvs⟩ := own_shape hown4
    subst hvs
    have r9 := BlockIs.of hk4 9 _ rfl
    have rf9 : w4.frozen? ⟨q, 9, none⟩ = false := by unfold World.frozen?; rw [hk4]; simp
    have hsg := set_grown w4 q 9 (.slice va 2 vc)
    have htq : ∀ g', some q = some g' → Typed w4 g' 45 := fun g' hg' => by injection hg' with hg'; subst hg'; exact ⟨_, hk4⟩
    have hev5 : EventsV (w4.setCell ⟨q, 9, none⟩ (.slice va 2 vc)) (.slice va 2 vc) (⟨0, -1, -1, 0⟩ :: [⟨4, 0, 0, 0⟩]) := evRow (n := 2) rfl (own_apart hown4 hsg htq (by decide)) (by decide)
    have hk5 := blk_set hk4 9 (.slice va 2 vc)
    have HC5 := Lib.hid (HCZ.out.ext ((HEZ3.out.trans (Ext.below hb4)).set_new hqz 9 (.slice va 2 vc)))
    have HB5 : Hid (Below w.heap.size w (w4.setCell ⟨q, 9, none⟩ (.slice va 2 vc))) := Lib.hid ((bthen HB3.out hb4).setCell (p := ⟨q, 9, none⟩) hwq _)
    have HR5 : Hid (RowsV (w4.setCell ⟨q, 9, none⟩ (.slice va 2 vc)) (.slice (some ⟨q, 0, none⟩) 2 2) [⟨5, -1, false, 0, []⟩, ⟨6, (-1), false, 0, ⟨0, -1, -1, 0⟩ :: [⟨4, 0, 0, 0⟩]⟩]) := Lib.hid (by
      have hB := BlockIs.of hk5
      exact slice2 (by decide) (row_of hB _ rfl rfl rfl rfl rfl rfl) ⟨hB 5 _ rfl, hB 6 _ rfl, hB 7 _ rfl, hB 8 _ rfl, _, hB 9 _ rfl, hev5⟩)
    have HC4 := Lib.hid (HCZ.out.ext (HEZ3.out.trans (Ext.below hb4)))
    have z0 := HC4.out.c0; have z1 := HC4.out.c1; have z2 := HC4.out.c2; have z3 := HC4.out.c3; have z4 := HC4.out.c4; unfold IntAt at z0 z1
    clear hown4 hg4 hr4 hk4 hb4 hsg htq hev5 hk5 HB3 HEZ3 HK3 HLT HCZ hqz HC4
    go_wp2_with fail
    refine (rows_any plainCfg _ _ [⟨5, -1, false, 0, []⟩, ⟨6, (-1), false, 0, ⟨0, -1, -1, 0⟩ :: [⟨4, 0, 0, 0⟩]⟩] _ ⟨_, _, _, rfl, HC5.out.is⟩ HR5.out).mono ?_
    rw [HM2.out, if_neg (by decide)]
    rintro e w6 ⟨rfl, hb6⟩
    have HB6 := Lib.hid (bthen HB5.out hb6)
    clear hb6 HB5 HC5 HR5 z0 z1 z2 z3 z4 r9 rf9
    go_wp2_with (first | (go_at_call 11; refine (num_any _ _).mono ?_; rintro e w' ⟨rfl, hw⟩; subst w') | fail)
    go_ret
    exact ⟨rfl, HB6.out⟩
  · rw [if_pos (by decide)]
    rintro e w3 ⟨rfl, hb3⟩
    have HB3 := Lib.hid (bthen HBW.out hb3)
    have HEZ3 := Lib.hid (HEZ.out.trans (Ext.below hb3))
    have HK3 := Lib.hid (keep_blk HK.out hb3)
    have HE3 := Lib.hid (keep_blk HE.out hb3)
    clear HE
    clear hb3 HBW HCX HK HEZ hO HA HB
    have hlit : (w3.alloc (.cells #[.int .i64 0, .int .i64 (-1), .int .i64 (-1), .int .i64 0] 49)).ownsRow w3.heap.size 49 4 (.slice (some ⟨w3.heap.size, 0, none⟩) 1 1) 1 [.int .i64 0, .int .i64 (-1), .int .i64 (-1), .int .i64 0] := World.ownsRow_lit w3 #[.int .i64 0, .int .i64 (-1), .int .i64 (-1), .int .i64 0] 1 (Nat.le_refl _) (by decide) rfl
    have HLT := Lib.hid hlit
    have r9 := BlockIs.of HK3.out 9 _ rfl
    have hq3 : q < w3.heap.size := lt_of_block HK3.out
    clear hlit
    go_wp2_with (at_builtin; refine wpList_onto _ rfl (.tmp 65) (.tmp 69) 43 rfl w3.heap.size 49 _ 4 32 Try.underlying43 infoEvent rfl (by decide) _ 1 _ rfl HLT.out 1 [.int .i64 4, .int .i64 0, .int .i64 0, .int .i64 0] (.inr ⟨⟨eb, 0, none⟩, 1, rfl, fun j u hu => by rw [addr_add, Nat.zero_add]; exact Ext.alloc _ _ _ _ (BlockIs.of HE3.out j u (by simpa using hu))⟩) rfl (by simp [Value.oneCell']) (by decide) (by decide) (by simp) ?_)
    intro v' w4 hown4 hg4
    have hr4 : ∀ b, (Value.slice (some ⟨w3.heap.size, 0, none⟩) 1 1).ownBlock = some b → Typed (w3.alloc (.cells #[.int .i64 0, .int .i64 (-1), .int .i64 (-1), .int .i64 0] 49)) b 49 := fun b hb => own_typed HLT.out hb
    have hk4 := typed_apart (keep_blk HK3.out (balloc w3 (.cells #[.int .i64 0, .int .i64 (-1), .int .i64 (-1), .int .i64 0] 49))) hg4 hr4 (by decide)
    have hb4 : Below w3.heap.size w3 w4 := (balloc w3 _).grown hg4 (by simp) (fun k hk => by simp [Value.ownBlock] at hk; omega)
    obtain ⟨va, vc, hvs⟩ := own_shape hown4
    subst hvs
    have r9 := BlockIs.of hk4 9 _ rfl
    have rf9 : w4.frozen? ⟨q, 9, none⟩ = false := by unfold World.frozen?; rw [hk4]; simp
    have hsg := set_grown w4 q 9 (.slice va 2 vc)
    have htq : ∀ g', some q = some g' → Typed w4 g' 45 := fun g' hg' => by injection hg' with hg'; subst hg'; exact ⟨_, hk4⟩
    have hev5 : EventsV (w4.setCell ⟨q, 9, none⟩ (.slice va 2 vc)) (.slice va 2 vc) (⟨0, -1, -1, 0⟩ :: [⟨4, 0, 0, 0⟩]) := evRow (n := 2) rfl (own_apart hown4 hsg htq (by decide)) (by decide)
    have hk5 := blk_set hk4 9 (.slice va 2 vc)
    have HC5 := Lib.hid (HCZ.out.ext ((HEZ3.out.trans (Ext.below hb4)).set_new hqz 9 (.slice va 2 vc)))
    have HB5 : Hid (Below w.heap.size w (w4.setCell ⟨q, 9, none⟩ (.slice va 2 vc))) := Lib.hid ((bthen HB3.out hb4).setCell (p := ⟨q, 9, none⟩) hwq _)
    have HR5 : Hid (RowsV (w4.setCell ⟨q, 9, none⟩ (.slice va 2 vc)) (.slice (some ⟨q, 0, none⟩) 2 2) [⟨5, -1, false, 0, []⟩, ⟨6, (-1), false, 1, ⟨0, -1, -1, 0⟩ :: [⟨4, 0, 0, 0⟩]⟩]) := Lib.hid (by
      have hB := BlockIs.of hk5
      exact slice2 (by decide) (row_of hB _ rfl rfl rfl rfl rfl rfl) ⟨hB 5 _ rfl, hB 6 _ rfl, hB 7 _ rfl, hB 8 _ rfl, _, hB 9 _ rfl, hev5⟩)
    have HC4 := Lib.hid (HCZ.out.ext (HEZ3.out.trans (Ext.below hb4)))
    have z0 := HC4.out.c0; have z1 := HC4.out.c1; have z2 := HC4.out.c2; have z3 := HC4.out.c3; have z4 := HC4.out.c4; unfold IntAt at z0 z1
    clear hown4 hg4 hr4 hk4 hb4 hsg htq hev5 hk5 HB3 HEZ3 HK3 HLT HCZ hqz HC4
    go_wp2_with fail
    refine (rows_any plainCfg _ _ [⟨5, -1, false, 0, []⟩, ⟨6, (-1), false, 1, ⟨0, -1, -1, 0⟩ :: [⟨4, 0, 0, 0⟩]⟩] _ ⟨_, _, _, rfl, HC5.out.is⟩ HR5.out).mono ?_
    rw [HM2.out, if_pos (by decide)]
    rintro e w6 ⟨rfl, hb6⟩
    have HB6 := Lib.hid (bthen HB5.out hb6)
    clear hb6 HB5 HC5 HR5 z0 z1 z2 z3 z4 r9 rf9
    go_wp2_with (first | (go_at_call 11; refine (num_any _ _).mono ?_; rintro e w' ⟨rfl, hw⟩; subst w') | fail)
    go_ret
    exact ⟨rfl, HB6.out⟩
  · rw [if_neg (by decide)]
    rintro e w3 ⟨rfl, hb3⟩
    have HB3 := Lib.hid (bthen HBW.out hb3)
    have HEZ3 := Lib.hid (HEZ.out.trans (Ext.below hb3))
    have HK3 := Lib.hid (keep_blk HK.out hb3)
    have HE3 := Lib.hid (keep_blk HE.out hb3)
    clear HE
    clear hb3 HBW HCX HK HEZ hO HA HB
    have hlit : (w3.alloc (.cells #[.int .i64 0, .int .i64 (-1), .int .i64 (-1), .int .i64 0] 49)).ownsRow w3.heap.size 49 4 (.slice (some ⟨w3.heap.size, 0, none⟩) 1 1) 1 [.int .i64 0, .int .i64 (-1), .int .i64 (-1), .int .i64 0] := World.ownsRow_lit w3 #[.int .i64 0, .int .i64 (-1), .int .i64 (-1), .int .i64 0] 1 (Nat.le_refl _) (by decide) rfl
    have HLT := Lib.hid hlit
    have r9 := BlockIs.of HK3.out 9 _ rfl
    have hq3 : q < w3.heap.size := lt_of_block HK3.out
    clear hlit
    go_wp2_with (at_builtin; refine wpList_onto _ rfl (.tmp 65) (.tmp 69) 43 rfl w3.heap.size 49 _ 4 32 Try.underlying43 infoEvent rfl (by decide) _ 1 _ rfl HLT.out 1 [.int .i64 4, .int .i64 0, .int .i64 0, .int .i64 0] (.inr ⟨⟨eb, 0, none⟩, 1, rfl, fun j u hu => by rw [addr_add, Nat.zero_add]; exact Ext.alloc _ _ _ _ (BlockIs.of HE3.out j u (by simpa using hu))⟩) rfl (by simp [Value.oneCell']) (by decide) (by decide) (by simp) ?_)
    intro v' w4 hown4 hg4
    have hr4 : ∀ b, (Value.slice (some ⟨w3.heap.size, 0, none⟩) 1 1).ownBlock = some b → Typed (w3.alloc (.cells #[.int .i64 0, .int .i64 (-1), .int .i64 (-1), .int .i64 0] 49)) b 49 := fun b hb => own_typed HLT.out hb
    have hk4 := typed_apart (keep_blk HK3.out (balloc w3 (.cells #[.int .i64 0, .int .i64 (-1), .int .i64 (-1), .int .i64 0] 49))) hg4 hr4 (by decide)
    have hb4 : Below w3.heap.size w3 w4 := (balloc w3 _).grown hg4 (by simp) (fun k hk => by simp [Value.ownBlock] at hk; omega)
    obtain ⟨va, vc, hvs⟩ := own_shape hown4
    subst hvs
    have r9 := BlockIs.of hk4 9 _ rfl
    have rf9 : w4.frozen? ⟨q, 9, none⟩ = false := by unfold World.frozen?; rw [hk4]; simp
    have hsg := set_grown w4 q 9 (.slice va 2 vc)
    have htq : ∀ g', some q = some g' → Typed w4 g' 45 := fun g' hg' => by injection hg' with hg'; subst hg'; exact ⟨_, hk4⟩
    have hev5 : EventsV (w4.setCell ⟨q, 9, none⟩ (.slice va 2 vc)) (.slice va 2 vc) (⟨0, -1, -1, 0⟩ :: [⟨4, 0, 0, 0⟩]) := evRow (n := 2) rfl (own_apart hown4 hsg htq (by decide)) (by decide)
    have hk5 := blk_set hk4 9 (.slice va 2 vc)
    have HC5 := Lib.hid (HCZ.out.ext ((HEZ3.out.trans (Ext.below hb4)).set_new hqz 9 (.slice va 2 vc)))
    have HB5 : Hid (Below w.heap.size w (w4.setCell ⟨q, 9, none⟩ (.slice va 2 vc))) := Lib.hid ((bthen HB3.out hb4).setCell (p := ⟨q, 9, none⟩) hwq _)
    have HR5 : Hid (RowsV (w4.setCell ⟨q, 9, none⟩ (.slice va 2 vc)) (.slice (some ⟨q, 0, none⟩) 2 2) [⟨5, -1, false, 1, []⟩, ⟨6, (-1), false, 0, ⟨0, -1, -1, 0⟩ :: [⟨4, 0, 0, 0⟩]⟩]) := Lib.hid (by
      have hB := BlockIs.of hk5
      exact slice2 (by decide) (row_of hB _ rfl rfl rfl rfl rfl rfl) ⟨hB 5 _ rfl, hB 6 _ rfl, hB 7 _ rfl, hB 8 _ rfl, _, hB 9 _ rfl, hev5⟩)
    have HC4 := Lib.hid (HCZ.out.ext (HEZ3.out.trans (Ext.below hb4)))
    have z0 := HC4.out.c0; have z1 := HC4.out.c1; have z2 := HC4.out.c2; have z3 := HC4.out.c3; have z4 := HC4.out.c4; unfold IntAt at z0 z1
    clear hown4 hg4 hr4 hk4 hb4 hsg htq hev5 hk5 HB3 HEZ3 HK3 HLT HCZ hqz HC4
    go_wp2_with fail
    refine (rows_any plainCfg _ _ [⟨5, -1, false, 1, []⟩, ⟨6, (-1), false, 0, ⟨0, -1, -1, 0⟩ :: [⟨4, 0, 0, 0⟩]⟩] _ ⟨_, _, _, rfl, HC5.out.is⟩ HR5.out).mono ?_
    rw [HM2.out, if_neg (by decide)]
    rintro e w6 ⟨rfl, hb6⟩
    have HB6 := Lib.hid (bthen HB5.out hb6)
    clear hb6 HB5 HC5 HR5 z0 z1 z2 z3 z4 r9 rf9
    go_wp2_with (first | (go_at_call 11; refine (num_any _ _).mono ?_; rintro e w' ⟨rfl, hw⟩; subst w') | fail)
    go_ret
    exact ⟨rfl, HB6.out⟩
  · rw [if_pos (by decide)]
    rintro e w3 ⟨rfl, hb3⟩
    have HB3 := Lib.hid (bthen HBW.out hb3)
    have HEZ3 := Lib.hid (HEZ.out.trans (Ext.below hb3))
    have HK3 := Lib.hid (keep_blk HK.out hb3)
    have HE3 := Lib.hid (keep_blk HE.out hb3)
    clear HE
    clear hb3 HBW HCX HK HEZ hO HA HB
    have hlit : (w3.alloc (.cells #[.int .i64 0, .int .i64 (-1), .int .i64 (-1), .int .i64 0] 49)).ownsRow w3.heap.size 49 4 (.slice (some ⟨w3.heap.size, 0, none⟩) 1 1) 1 [.int .i64 0, .int .i64 (-1), .int .i64 (-1), .int .i64 0] := World.ownsRow_lit w3 #[.int .i64 0, .int .i64 (-1), .int .i64 (-1), .int .i64 0] 1 (Nat.le_refl _) (by decide) rfl
    have HLT := Lib.hid hlit
    have r9 := BlockIs.of HK3.out 9 _ rfl
    have hq3 : q < w3.heap.size := lt_of_block HK3.out
    clear hlit
    go_wp2_with (at_builtin; refine wpList_onto _ rfl (.tmp 65) (.tmp 69) 43 rfl w3.heap.size 49 _ 4 32 Try.underlying43 infoEvent rfl (by decide) _ 1 _ rfl HLT.out 1 [.int .i64 4, .int .i64 0, .int .i64 0, .int .i64 0] (.inr ⟨⟨eb, 0, none⟩, 1, rfl, fun j u hu => by rw [addr_add, Nat.zero_add]; exact Ext.alloc _ _ _ _ (BlockIs.of HE3.out j u (by simpa using hu))⟩) rfl (by simp [Value.oneCell']) (by decide) (by decide) (by simp) ?_)
    intro v' w4 hown4 hg4
    have hr4 : ∀ b, (Value.slice (some ⟨w3.heap.size, 0, none⟩) 1 1).ownBlock = some b → Typed (w3.alloc (.cells #[.int .i64 0, .int .i64 (-1), .int .i64 (-1), .int .i64 0] 49)) b 49 := fun b hb => own_typed HLT.out hb
    have hk4 := typed_apart (keep_blk HK3.out (balloc w3 (.cells #[.int .i64 0, .int .i64 (-1), .int .i64 (-1), .int .i64 0] 49))) hg4 hr4 (by decide)
    have hb4 : Below w3.heap.size w3 w4 := (balloc w3 _).grown hg4 (by simp) (fun k hk => by simp [Value.ownBlock] at hk; omega)
    obtain ⟨va, vc, hvs⟩ := own_shape hown4
    subst hvs
    have r9 := BlockIs.of hk4 9 _ rfl
    have rf9 : w4.frozen? ⟨q, 9, none⟩ = false := by unfold World.frozen?; rw [hk4]; simp
    have hsg := set_grown w4 q 9 (.slice va 2 vc)
    have htq : ∀ g', some q = some g' → Typed w4 g' 45 := fun g' hg' => by injection hg' with hg'; subst hg'; exact ⟨_, hk4⟩
    have hev5 : EventsV (w4.setCell ⟨q, 9, none⟩ (.slice va 2 vc)) (.slice va 2 vc) (⟨0, -1, -1, 0⟩ :: [⟨4, 0, 0, 0⟩]) := evRow (n := 2) rfl (own_apart hown4 hsg htq (by decide)) (by decide)
    have hk5 := blk_set hk4 9 (.slice va 2 vc)
    have HC5 := Lib.hid (HCZ.out.ext ((HEZ3.out.trans (Ext.below hb4)).set_new hqz 9 (.slice va 2 vc)))
    have HB5 : Hid (Below w.heap.size w (w4.setCell ⟨q, 9, none⟩ (.slice va 2 vc))) := Lib.hid ((bthen HB3.out hb4).setCell (p := ⟨q, 9, none⟩) hwq _)
    have HR5 : Hid (RowsV (w4.setCell ⟨q, 9, none⟩ (.slice va 2 vc)) (.slice (some ⟨q, 0, none⟩) 2 2) [⟨5, -1, false, 1, []⟩, ⟨6, (-1), false, 1, ⟨0, -1, -1, 0⟩ :: [⟨4, 0, 0, 0⟩]⟩]) := Lib.hid (by
      have hB := BlockIs.of hk5
      exact slice2 (by decide) (row_of hB _ rfl rfl rfl rfl rfl rfl) ⟨hB 5 _ rfl, hB 6 _ rfl, hB 7 _ rfl, hB 8 _ rfl, _, hB 9 _ rfl, hev5⟩)
    have HC4 := Lib.hid (HCZ.out.ext (HEZ3.out.trans (Ext.below hb4)))
    have z0 := HC4.out.c0; have z1 := HC4.out.c1; have z2 := HC4.out.c2; have z3 := HC4.out.c3; have z4 := HC4.out.c4; unfold IntAt at z0 z1
    clear hown4 hg4 hr4 hk4 hb4 hsg htq hev5 hk5 HB3 HEZ3 HK3 HLT HCZ hqz HC4
    go_wp2_with fail
    refine (rows_any plainCfg _ _ [⟨5, -1, false, 1, []⟩, ⟨6, (-1), false, 1, ⟨0, -1, -1, 0⟩ :: [⟨4, 0, 0, 0⟩]⟩] _ ⟨_, _, _, rfl, HC5.out.is⟩ HR5.out).mono ?_
    rw [HM2.out, if_pos (by decide)]
    rintro e w6 ⟨rfl, hb6⟩
    have HB6 := Lib.hid (bthen HB5.out hb6)
    clear hb6 HB5 HC5 HR5 z0 z1 z2 z3 z4 r9 rf9
    go_wp2_with (first | (go_at_call 11; refine (num_any _ _).mono ?_; rintro e w' ⟨rfl, hw⟩; subst w') | fail)
    go_ret
    exact ⟨rfl, HB6.out⟩
  · rw [if_neg (by decide)]
    rintro e w3 ⟨rfl, hb3⟩
    have HB3 := Lib.hid (bthen HBW.out hb3)
    have HEZ3 := Lib.hid (HEZ.out.trans (Ext.below hb3))
    have HK3 := Lib.hid (keep_blk HK.out hb3)
    have HE3 := Lib.hid (keep_blk HE.out hb3)
    clear HE
    clear hb3 HBW HCX HK HEZ hO HA HB
    have hlit : (w3.alloc (.cells #[.int .i64 0, .int .i64 (-1), .int .i64 (-1), .int .i64 0] 49)).ownsRow w3.heap.size 49 4 (.slice (some ⟨w3.heap.size, 0, none⟩) 1 1) 1 [.int .i64 0, .int .i64 (-1), .int .i64 (-1), .int .i64 0] := World.ownsRow_lit w3 #[.int .i64 0, .int .i64 (-1), .int .i64 (-1), .int .i64 0] 1 (Nat.le_refl _) (by decide) rfl
    have HLT := Lib.hid hlit
    have r9 := BlockIs.of HK3.out 9 _ rfl
    have hq3 : q < w3.heap.size := lt_of_block HK3.out
    clear hlit
    go_wp2_with (at_builtin; refine wpList_onto _ rfl (.tmp 65) (.tmp 69) 43 rfl w3.heap.size 49 _ 4 32 Try.underlying43 infoEvent rfl (by decide) _ 1 _ rfl HLT.out 1 [.int .i64 4, .int .i64 0, .int .i64 0, .int .i64 0] (.inr ⟨⟨eb, 0, none⟩, 1, rfl, fun j u hu => by rw [addr_add, Nat.zero_add]; exact Ext.alloc _ _ _ _ (BlockIs.of HE3.out j u (by simpa using hu))⟩) rfl (by simp [Value.oneCell']) (by decide) (by decide) (by simp) ?_)
    intro v' w4 hown4 hg4
    have hr4 : ∀ b, (Value.slice (some ⟨w3.heap.size, 0, none⟩) 1 1).ownBlock = some b → Typed (w3.alloc (.cells #[.int .i64 0, .int .i64 (-1), .int .i64 (-1), .int .i64 0] 49)) b 49 := fun b hb => own_typed HLT.out hb
    have hk4 := typed_apart (keep_blk HK3.out (balloc w3 (.cells #[.int .i64 0, .int .i64 (-1), .int .i64 (-1), .int .i64 0] 49))) hg4 hr4 (by decide)
    have hb4 : Below w3.heap.size w3 w4 := (balloc w3 _).grown hg4 (by simp) (fun k hk => by simp [Value.ownBlock] at hk; omega)
    obtain ⟨va, vc, hvs⟩ := own_shape hown4
    subst hvs
    have r9 := BlockIs.of hk4 9 _ rfl
    have rf9 : w4.frozen? ⟨q, 9, none⟩ = false := by unfold World.frozen?; rw [hk4]; simp
    have hsg := set_grown w4 q 9 (.slice va 2 vc)
    have htq : ∀ g', some q = some g' → Typed w4 g' 45 := fun g' hg' => by injection hg' with hg'; subst hg'; exact ⟨_, hk4⟩
    have hev5 : EventsV (w4.setCell ⟨q, 9, none⟩ (.slice va 2 vc)) (.slice va 2 vc) (⟨0, -1, -1, 0⟩ :: [⟨4, 0, 0, 0⟩]) := evRow (n := 2) rfl (own_apart hown4 hsg htq (by decide)) (by decide)
    have hk5 := blk_set hk4 9 (.slice va 2 vc)
    have HC5 := Lib.hid (HCZ.out.ext ((HEZ3.out.trans (Ext.below hb4)).set_new hqz 9 (.slice va 2 vc)))
    have HB5 : Hid (Below w.heap.size w (w4.setCell ⟨q, 9, none⟩ (.slice va 2 vc))) := Lib.hid ((bthen HB3.out hb4).setCell (p := ⟨q, 9, none⟩) hwq _)
    have HR5 : Hid (RowsV (w4.setCell ⟨q, 9, none⟩ (.slice va 2 vc)) (.slice (some ⟨q, 0, none⟩) 2 2) [⟨5, -1, false, 0, []⟩, ⟨6, (0), false, 0, ⟨0, -1, -1, 0⟩ :: [⟨4, 0, 0, 0⟩]⟩]) := Lib.hid (by
      have hB := BlockIs.of hk5
      exact slice2 (by decide) (row_of hB _ rfl rfl rfl rfl rfl rfl) ⟨hB 5 _ rfl, hB 6 _ rfl, hB 7 _ rfl, hB 8 _ rfl, _, hB 9 _ rfl, hev5⟩)
    have HC4 := Lib.hid (HCZ.out.ext (HEZ3.out.trans (Ext.below hb4)))
    have z0 := HC4.out.c0; have z1 := HC4.out.c1; have z2 := HC4.out.c2; have z3 := HC4.out.c3; have z4 := HC4.out.c4; unfold IntAt at z0 z1
    clear hown4 hg4 hr4 hk4 hb4 hsg htq hev5 hk5 HB3 HEZ3 HK3 HLT HCZ hqz HC4
    go_wp2_with fail
    refine (rows_any plainCfg _ _ [⟨5, -1, false, 0, []⟩, ⟨6, (0), false, 0, ⟨0, -1, -1, 0⟩ :: [⟨4, 0, 0, 0⟩]⟩] _ ⟨_, _, _, rfl, HC5.out.is⟩ HR5.out).mono ?_
    rw [HM2.out, if_neg (by decide)]
    rintro e w6 ⟨rfl, hb6⟩
    have HB6 := Lib.hid (bthen HB5.out hb6)
    clear hb6 HB5 HC5 HR5 z0 z1 z2 z3 z4 r9 rf9
    go_wp2_with (first | (go_at_call 11; refine (num_any _ _).mono ?_; rintro e w' ⟨rfl, hw⟩; subst w') | fail)
    go_ret
    exact ⟨rfl, HB6.out⟩
  · rw [if_neg (by decide)]
    rintro e w3 ⟨rfl, hb3⟩
    have HB3 := Lib.hid (bthen HBW.out hb3)
    have HEZ3 := Lib.hid (HEZ.out.trans (Ext.below hb3))
    have HK3 := Lib.hid (keep_blk HK.out hb3)
    have HE3 := Lib.hid (keep_blk HE.out hb3)
    clear HE
    clear hb3 HBW HCX HK HEZ hO HA HB
    have hlit : (w3.alloc (.cells #[.int .i64 0, .int .i64 (-1), .int .i64 (-1), .int .i64 0] 49)).ownsRow w3.heap.size 49 4 (.slice (some ⟨w3.heap.size, 0, none⟩) 1 1) 1 [.int .i64 0, .int .i64 (-1), .int .i64 (-1), .int .i64 0] := World.ownsRow_lit w3 #[.int .i64 0, .int .i64 (-1), .int .i64 (-1), .int .i64 0] 1 (Nat.le_refl _) (by decide) rfl
    have HLT := Lib.hid hlit
    have r9 := BlockIs.of HK3.out 9 _ rfl
    have hq3 : q < w3.heap.size := lt_of_block HK3.out
    clear hlit
    go_wp2_with (at_builtin; refine wpList_onto _ rfl (.tmp 65) (.tmp 69) 43 rfl w3.heap.size 49 _ 4 32 Try.underlying43 infoEvent rfl (by decide) _ 1 _ rfl HLT.out 1 [.int .i64 4, .int .i64 0, .int .i64 0, .int .i64 0] (.inr ⟨⟨eb, 0, none⟩, 1, rfl, fun j u hu => by rw [addr_add, Nat.zero_add]; exact Ext.alloc _ _ _ _ (BlockIs.of HE3.out j u (by simpa using hu))⟩) rfl (by simp [Value.oneCell']) (by decide) (by decide) (by simp) ?_)
    intro v' w4 hown4 hg4
    have hr4 : ∀ b, (Value.slice (some ⟨w3.heap.size, 0, none⟩) 1 1).ownBlock = some b → Typed (w3.alloc (.cells #[.int .i64 0, .int .i64 (-1), .int .i64 (-1), .int .i64 0] 49)) b 49 := fun b hb => own_typed HLT.out hb
    have hk4 := typed_apart (keep_blk HK3.out (balloc w3 (.cells #[.int .i64 0, .int .i64 (-1), .int .i64 (-1), .int .i64 0] 49))) hg4 hr4 (by decide)
    have hb4 : Below w3.heap.size w3 w4 := (balloc w3 _).grown hg4 (by simp) (fun k hk => by simp [Value.ownBlock] at hk; omega)
    obtain ⟨va, vc, hvs⟩ := own_shape hown4
    subst hvs
    have r9 := BlockIs.of hk4 9 _ rfl
    have rf9 : w4.frozen? ⟨q, 9, none⟩ = false := by unfold World.frozen?; rw [hk4]; simp
    have hsg := set_grown w4 q 9 (.slice va 2 vc)
    have htq : ∀ g', some q = some g' → Typed w4 g' 45 := fun g' hg' => by injection hg' with hg'; subst hg'; exact ⟨_, hk4⟩
    have hev5 : EventsV (w4.setCell ⟨q, 9, none⟩ (.slice va 2 vc)) (.slice va 2 vc) (⟨0, -1, -1, 0⟩ :: [⟨4, 0, 0, 0⟩]) := evRow (n := 2) rfl (own_apart hown4 hsg htq (by decide)) (by decide)
    have hk5 := blk_set hk4 9 (.slice va 2 vc)
    have HC5 := Lib.hid (HCZ.out.ext ((HEZ3.out.trans (Ext.below hb4)).set_new hqz 9 (.slice va 2 vc)))
    have HB5 : Hid (Below w.heap.size w (w4.setCell ⟨q, 9, none⟩ (.slice va 2 vc))) := Lib.hid ((bthen HB3.out hb4).setCell (p := ⟨q, 9, none⟩) hwq _)
    have HR5 : Hid (RowsV (w4.setCell ⟨q, 9, none⟩ (.slice va 2 vc)) (.slice (some ⟨q, 0, none⟩) 2 2) [⟨5, -1, false, 0, []⟩, ⟨6, (0), false, 1, ⟨0, -1, -1, 0⟩ :: [⟨4, 0, 0, 0⟩]⟩]) := Lib.hid (by
      have hB := BlockIs.of hk5
      exact slice2 (by decide) (row_of hB _ rfl rfl rfl rfl rfl rfl) ⟨hB 5 _ rfl, hB 6 _ rfl, hB 7 _ rfl, hB 8 _ rfl, _, hB 9 _ rfl, hev5⟩)
    have HC4 := Lib.hid (HCZ.out.ext (HEZ3.out.trans (Ext.below hb4)))
    have z0 := HC4.out.c0; have z1 := HC4.out.c1; have z2 := HC4.out.c2; have z3 := HC4.out.c3; have z4 := HC4.out.c4; unfold IntAt at z0 z1
    clear hown4 hg4 hr4 hk4 hb4 hsg htq hev5 hk5 HB3 HEZ3 HK3 HLT HCZ hqz HC4
    go_wp2_with fail
    refine (rows_any plainCfg _ _ [⟨5, -1, false, 0, []⟩, ⟨6, (0), false, 1, ⟨0, -1, -1, 0⟩ :: [⟨4, 0, 0, 0⟩]⟩] _ ⟨_, _, _, rfl, HC5.out.is⟩ HR5.out).mono ?_
    rw [HM2.out, if_neg (by decide)]
    rintro e w6 ⟨rfl, hb6⟩
    have HB6 := Lib.hid (bthen HB5.out hb6)
    clear hb6 HB5 HC5 HR5 z0 z1 z2 z3 z4 r9 rf9
    go_wp2_with (first | (go_at_call 11; refine (num_any _ _).mono ?_; rintro e w' ⟨rfl, hw⟩; subst w') | fail)
    go_ret
    exact ⟨rfl, HB6.out⟩
  · rw [if_neg (by decide)]
    rintro e w3 ⟨rfl, hb3⟩
    have HB3 := Lib.hid (bthen HBW.out hb3)
    have HEZ3 := Lib.hid (HEZ.out.trans (Ext.below hb3))
    have HK3 := Lib.hid (keep_blk HK.out hb3)
    have HE3 := Lib.hid (keep_blk HE.out hb3)
    clear HE
    clear hb3 HBW HCX HK HEZ hO HA HB
    have hlit : (w3.alloc (.cells #[.int .i64 0, .int .i64 (-1), .int .i64 (-1), .int .i64 0] 49)).ownsRow w3.heap.size 49 4 (.slice (some ⟨w3.heap.size, 0, none⟩) 1 1) 1 [.int .i64 0, .int .i64 (-1), .int .i64 (-1), .int .i64 0] := World.ownsRow_lit w3 #[.int .i64 0, .int .i64 (-1), .int .i64 (-1), .int .i64 0] 1 (Nat.le_refl _) (by decide) rfl
    have HLT := Lib.hid hlit
    have r9 := BlockIs.of HK3.out 9 _ rfl
    have hq3 : q < w3.heap.size := lt_of_block HK3.out
    clear hlit
    go_wp2_with (at_builtin; refine wpList_onto _ rfl (.tmp 65) (.tmp 69) 43 rfl w3.heap.size 49 _ 4 32 Try.underlying43 infoEvent rfl (by decide) _ 1 _ rfl HLT.out 1 [.int .i64 4, .int .i64 0, .int .i64 0, .int .i64 0] (.inr ⟨⟨eb, 0, none⟩, 1, rfl, fun j u hu => by rw [addr_add, Nat.zero_add]; exact Ext.alloc _ _ _ _ (BlockIs.of HE3.out j u (by simpa using hu))⟩) rfl (by simp [Value.oneCell']) (by decide) (by decide) (by simp) ?_)
    intro v' w4 hown4 hg4
    have hr4 : ∀ b, (Value.slice (some ⟨w3.heap.size, 0, none⟩) 1 1).ownBlock = some b → Typed (w3.alloc (.cells #[.int .i64 0, .int .i64 (-1), .int .i64 (-1), .int .i64 0] 49)) b 49 := fun b hb => own_typed HLT.out hb
    have hk4 := typed_apart (keep_blk HK3.out (balloc w3 (.cells #[.int .i64 0, .int .i64 (-1), .int .i64 (-1), .int .i64 0] 49))) hg4 hr4 (by decide)
    have hb4 : Below w3.heap.size w3 w4 := (balloc w3 _).grown hg4 (by simp) (fun k hk => by simp [Value.ownBlock] at hk; omega)
    obtain ⟨va, vc, hvs⟩ := own_shape hown4
    subst hvs
    have r9 := BlockIs.of hk4 9 _ rfl
    have rf9 : w4.frozen? ⟨q, 9, none⟩ = false := by unfold World.frozen?; rw [hk4]; simp
    have hsg := set_grown w4 q 9 (.slice va 2 vc)
    have htq : ∀ g', some q = some g' → Typed w4 g' 45 := fun g' hg' => by injection hg' with hg'; subst hg'; exact ⟨_, hk4⟩
    have hev5 : EventsV (w4.setCell ⟨q, 9, none⟩ (.slice va 2 vc)) (.slice va 2 vc) (⟨0, -1, -1, 0⟩ :: [⟨4, 0, 0, 0⟩]) := evRow (n := 2) rfl (own_apart hown4 hsg htq (by decide)) (by decide)
    have hk5 := blk_set hk4 9 (.slice va 2 vc)
    have HC5 := Lib.hid (HCZ.out.ext ((HEZ3.out.trans (Ext.below hb4)).set_new hqz 9 (.slice va 2 vc)))
    have HB5 : Hid (Below w.heap.size w (w4.setCell ⟨q, 9, none⟩ (.slice va 2 vc))) := Lib.hid ((bthen HB3.out hb4).setCell (p := ⟨q, 9, none⟩) hwq _)
    have HR5 : Hid (RowsV (w4.setCell ⟨q, 9, none⟩ (.slice va 2 vc)) (.slice (some ⟨q, 0, none⟩) 2 2) [⟨5, -1, false, 1, []⟩, ⟨6, (0), false, 0, ⟨0, -1, -1, 0⟩ :: [⟨4, 0, 0, 0⟩]⟩]) := Lib.hid (by
      have hB := BlockIs.of hk5
      exact slice2 (by decide) (row_of hB _ rfl rfl rfl rfl rfl rfl) ⟨hB 5 _ rfl, hB 6 _ rfl, hB 7 _ rfl, hB 8 _ rfl, _, hB 9 _ rfl, hev5⟩)
    have HC4 := Lib.hid (HCZ.out.ext (HEZ3.out.trans (Ext.below hb4)))
    have z0 := HC4.out.c0; have z1 := HC4.out.c1; have z2 := HC4.out.c2; have z3 := HC4.out.c3; have z4 := HC4.out.c4; unfold IntAt at z0 z1
    clear hown4 hg4 hr4 hk4 hb4 hsg htq hev5 hk5 HB3 HEZ3 HK3 HLT HCZ hqz HC4
    go_wp2_with fail
    refine (rows_any plainCfg _ _ [⟨5, -1, false, 1, []⟩, ⟨6, (0), false, 0, ⟨0, -1, -1, 0⟩ :: [⟨4, 0, 0, 0⟩]⟩] _ ⟨_, _, _, rfl, HC5.out.is⟩ HR5.out).mono ?_
    rw [HM2.out, if_neg (by decide)]
    rintro e w6 ⟨rfl, hb6⟩
    have HB6 := Lib.hid (bthen HB5.out hb6)
    clear hb6 HB5 HC5 HR5 z0 z1 z2 z3 z4 r9 rf9
    go_wp2_with (first | (go_at_call 11; refine (num_any _ _).mono ?_; rintro e w' ⟨rfl, hw⟩; subst w') | fail)
    go_ret
    exact ⟨rfl, HB6.out⟩
  · rw [if_neg (by decide)]
    rintro e w3 ⟨rfl, hb3⟩
    have HB3 := Lib.hid (bthen HBW.out hb3)
    have HEZ3 := Lib.hid (HEZ.out.trans (Ext.below hb3))
    have HK3 := Lib.hid (keep_blk HK.out hb3)
    have HE3 := Lib.hid (keep_blk HE.out hb3)
    clear HE
    clear hb3 HBW HCX HK HEZ hO HA HB
    have hlit : (w3.alloc (.cells #[.int .i64 0, .int .i64 (-1), .int .i64 (-1), .int .i64 0] 49)).ownsRow w3.heap.size 49 4 (.slice (some ⟨w3.heap.size, 0, none⟩) 1 1) 1 [.int .i64 0, .int .i64 (-1), .int .i64 (-1), .int .i64 0] := World.ownsRow_lit w3 #[.int .i64 0, .int .i64 (-1), .int .i64 (-1), .int .i64 0] 1 (Nat.le_refl _) (by decide) rfl
    have HLT := Lib.hid hlit
    have r9 := BlockIs.of HK3.out 9 _ rfl
    have hq3 : q < w3.heap.size := lt_of_block HK3.out
    clear hlit
    go_wp2_with (at_builtin; refine wpList_onto _ rfl (.tmp 65) (.tmp 69) 43 rfl w3.heap.size 49 _ 4 32 Try.underlying43 infoEvent rfl (by decide) _ 1 _ rfl HLT.out 1 [.int .i64 4, .int .i64 0, .int .i64 0, .int .i64 0] (.inr ⟨⟨eb, 0, none⟩, 1, rfl, fun j u hu => by rw [addr_add, Nat.zero_add]; exact Ext.alloc _ _ _ _ (BlockIs.of HE3.out j u (by simpa using hu))⟩) rfl (by simp [Value.oneCell']) (by decide) (by decide) (by simp) ?_)
    intro v' w4 hown4 hg4
    have hr4 : ∀ b, (Value.slice (some ⟨w3.heap.size, 0, none⟩) 1 1).ownBlock = some b → Typed (w3.alloc (.cells #[.int .i64 0, .int .i64 (-1), .int .i64 (-1), .int .i64 0] 49)) b 49 := fun b hb => own_typed HLT.out hb
    have hk4 := typed_apart (keep_blk HK3.out (balloc w3 (.cells #[.int .i64 0, .int .i64 (-1), .int .i64 (-1), .int .i64 0] 49))) hg4 hr4 (by decide)
    have hb4 : Below w3.heap.size w3 w4 := (balloc w3 _).grown hg4 (by simp) (fun k hk => by simp [Value.ownBlock] at hk; omega)
    obtain ⟨va, vc, hvs⟩ := own_shape hown4
    subst hvs
    have r9 := BlockIs.of hk4 9 _ rfl
    have rf9 : w4.frozen? ⟨q, 9, none⟩ = false := by unfold World.frozen?; rw [hk4]; simp
    have hsg := set_grown w4 q 9 (.slice va 2 vc)
    have htq : ∀ g', some q = some g' → Typed w4 g' 45 := fun g' hg' => by injection hg' with hg'; subst hg'; exact ⟨_, hk4⟩
    have hev5 : EventsV (w4.setCell ⟨q, 9, none⟩ (.slice va 2 vc)) (.slice va 2 vc) (⟨0, -1, -1, 0⟩ :: [⟨4, 0, 0, 0⟩]) := evRow (n := 2) rfl (own_apart hown4 hsg htq (by decide)) (by decide)
    have hk5 := blk_set hk4 9 (.slice va 2 vc)
    have HC5 := Lib.hid (HCZ.out.ext ((HEZ3.out.trans (Ext.below hb4)).set_new hqz 9 (.slice va 2 vc)))
    have HB5 : Hid (Below w.heap.size w (w4.setCell ⟨q, 9, none⟩ (.slice va 2 vc))) := Lib.hid ((bthen HB3.out hb4).setCell (p := ⟨q, 9, none⟩) hwq _)
    have HR5 : Hid (RowsV (w4.setCell ⟨q, 9, none⟩ (.slice va 2 vc)) (.slice (some ⟨q, 0, none⟩) 2 2) [⟨5, -1, false, 1, []⟩, ⟨6, (0), false, 1, ⟨0, -1, -1, 0⟩ :: [⟨4, 0, 0, 0⟩]⟩]) := Lib.hid (by
      have hB := BlockIs.of hk5
      exact slice2 (by decide) (row_of hB _ rfl rfl rfl rfl rfl rfl) ⟨hB 5 _ rfl, hB 6 _ rfl, hB 7 _ rfl, hB 8 _ rfl, _, hB 9 _ rfl, hev5⟩)
    have HC4 := Lib.hid (HCZ.out.ext (HEZ3.out.trans (Ext.below hb4)))
    have z0 := HC4.out.c0; have z1 := HC4.out.c1; have z2 := HC4.out.c2; have z3 := HC4.out.c3; have z4 := HC4.out.c4; unfold IntAt at z0 z1
    clear hown4 hg4 hr4 hk4 hb4 hsg htq hev5 hk5 HB3 HEZ3 HK3 HLT HCZ hqz HC4
    go_wp2_with fail
    refine (rows_any plainCfg _ _ [⟨5, -1, false, 1, []⟩, ⟨6, (0), false, 1, ⟨0, -1, -1, 0⟩ :: [⟨4, 0, 0, 0⟩]⟩] _ ⟨_, _, _, rfl, HC5.out.is⟩ HR5.out).mono ?_
    rw [HM2.out, if_neg (by decide)]
    rintro e w6 ⟨rfl, hb6⟩
    have HB6 := Lib.hid (bthen HB5.out hb6)
    clear hb6 HB5 HC5 HR5 z0 z1 z2 z3 z4 r9 rf9
    go_wp2_with (first | (go_at_call 11; refine (num_any _ _).mono ?_; rintro e w' ⟨rfl, hw⟩; subst w') | fail)
    go_ret
    exact ⟨rfl, HB6.out⟩
  · rw [if_neg (by decide)]
    rintro e w3 ⟨rfl, hb3⟩
    have HB3 := Lib.hid (bthen HBW.out hb3)
    have HEZ3 := Lib.hid (HEZ.out.trans (Ext.below hb3))
    have HK3 := Lib.hid (keep_blk HK.out hb3)
    have HE3 := Lib.hid (keep_blk HE.out hb3)
    clear HE
    clear hb3 HBW HCX HK HEZ hO HA HB
    have hlit : (w3.alloc (.cells #[.int .i64 0, .int .i64 (-1), .int .i64 (-1), .int .i64 0] 49)).ownsRow w3.heap.size 49 4 (.slice (some ⟨w3.heap.size, 0, none⟩) 1 1) 1 [.int .i64 0, .int .i64 (-1), .int .i64 (-1), .int .i64 0] := World.ownsRow_lit w3 #[.int .i64 0, .int .i64 (-1), .int .i64 (-1), .int .i64 0] 1 (Nat.le_refl _) (by decide) rfl
    have HLT := Lib.hid hlit
    have r9 := BlockIs.of HK3.out 9 _ rfl
    have hq3 : q < w3.heap.size := lt_of_block HK3.out
    clear hlit
    go_wp2_with (at_builtin; refine wpList_onto _ rfl (.tmp 65) (.tmp 69) 43 rfl w3.heap.size 49 _ 4 32 Try.underlying43 infoEvent rfl (by decide) _ 1 _ rfl HLT.out 1 [.int .i64 4, .int .i64 0, .int .i64 0, .int .i64 0] (.inr ⟨⟨eb, 0, none⟩, 1, rfl, fun j u hu => by rw [addr_add, Nat.zero_add]; exact Ext.alloc _ _ _ _ (BlockIs.of HE3.out j u (by simpa using hu))⟩) rfl (by simp [Value.oneCell']) (by decide) (by decide) (by simp) ?_)
    intro v' w4 hown4 hg4
    have hr4 : ∀ b, (Value.slice (some ⟨w3.heap.size, 0, none⟩) 1 1).ownBlock = some b → Typed (w3.alloc (.cells #[.int .i64 0, .int .i64 (-1), .int .i64 (-1), .int .i64 0] 49)) b 49 := fun b hb => own_typed HLT.out hb
    have hk4 := typed_apart (keep_blk HK3.out (balloc w3 (.cells #[.int .i64 0, .int .i64 (-1), .int .i64 (-1), .int .i64 0] 49))) hg4 hr4 (by decide)
    have hb4 : Below w3.heap.size w3 w4 := (balloc w3 _).grown hg4 (by simp) (fun k hk => by simp [Value.ownBlock] at hk; omega)
    obtain ⟨va, vc, hvs⟩ := own_shape hown4
    subst hvs
    have r9 := BlockIs.of hk4 9 _ rfl
    have rf9 : w4.frozen? ⟨q, 9, none⟩ = false := by unfold World.frozen?; rw [hk4]; simp
    have hsg := set_grown w4 q 9 (.slice va 2 vc)
    have htq : ∀ g', some q = some g' → Typed w4 g' 45 := fun g' hg' => by injection hg' with hg'; subst hg'; exact ⟨_, hk4⟩
    have hev5 : EventsV (w4.setCell ⟨q, 9, none⟩ (.slice va 2 vc)) (.slice va 2 vc) (⟨0, -1, -1, 0⟩ :: [⟨4, 0, 0, 0⟩]) := evRow (n := 2) rfl (own_apart hown4 hsg htq (by decide)) (by decide)
    have hk5 := blk_set hk4 9 (.slice va 2 vc)
    have HC5 := Lib.hid (HCZ.out.ext ((HEZ3.out.trans (Ext.below hb4)).set_new hqz 9 (.slice va 2 vc)))
    have HB5 : Hid (Below w.heap.size w (w4.setCell ⟨q, 9, none⟩ (.slice va 2 vc))) := Lib.hid ((bthen HB3.out hb4).setCell (p := ⟨q, 9, none⟩) hwq _)
    have HR5 : Hid (RowsV (w4.setCell ⟨q, 9, none⟩ (.slice va 2 vc)) (.slice (some ⟨q, 0, none⟩) 2 2) [⟨5, -1, false, 0, []⟩, ⟨6, (1), false, 0, ⟨0, -1, -1, 0⟩ :: [⟨4, 0, 0, 0⟩]⟩]) := Lib.hid (by
      have hB := BlockIs.of hk5
      exact slice2 (by decide) (row_of hB _ rfl rfl rfl rfl rfl rfl) ⟨hB 5 _ rfl, hB 6 _ rfl, hB 7 _ rfl, hB 8 _ rfl, _, hB 9 _ rfl, hev5⟩)
    have HC4 := Lib.hid (HCZ.out.ext (HEZ3.out.trans (Ext.below hb4)))
    have z0 := HC4.out.c0; have z1 := HC4.out.c1; have z2 := HC4.out.c2; have z3 := HC4.out.c3; have z4 := HC4.out.c4; unfold IntAt at z0 z1
    clear hown4 hg4 hr4 hk4 hb4 hsg htq hev5 hk5 HB3 HEZ3 HK3 HLT HCZ hqz HC4
    go_wp2_with fail
    refine (rows_any plainCfg _ _ [⟨5, -1, false, 0, []⟩, ⟨6, (1), false, 0, ⟨0, -1, -1, 0⟩ :: [⟨4, 0, 0, 0⟩]⟩] _ ⟨_, _, _, rfl, HC5.out.is⟩ HR5.out).mono ?_
    rw [HM2.out, if_neg (by decide)]
    rintro e w6 ⟨rfl, hb6⟩
    have HB6 := Lib.hid (bthen HB5.out hb6)
    clear hb6 HB5 HC5 HR5 z0 z1 z2 z3 z4 r9 rf9
    go_wp2_with (first | (go_at_call 11; refine (num_any _ _).mono ?_; rintro e w' ⟨rfl, hw⟩; subst w') | fail)
    go_ret
    exact ⟨rfl, HB6.out⟩
  · rw [if_pos (by decide)]
    rintro e w3 ⟨rfl, hb3⟩
    have HB3 := Lib.hid (bthen HBW.out hb3)
    have HEZ3 := Lib.hid (HEZ.out.trans (Ext.below hb3))
    have HK3 := Lib.hid (keep_blk HK.out hb3)
    have HE3 := Lib.hid (keep_blk HE.out hb3)
    clear HE
    clear hb3 HBW HCX HK HEZ hO HA HB
    have hlit : (w3.alloc (.cells #[.int .i64 0, .int .i64 (-1), .int .i64 (-1), .int .i64 0] 49)).ownsRow w3.heap.size 49 4 (.slice (some ⟨w3.heap.size, 0, none⟩) 1 1) 1 [.int .i64 0, .int .i64 (-1), .int .i64 (-1), .int .i64 0] := World.ownsRow_lit w3 #[.int .i64 0, .int .i64 (-1), .int .i64 (-1), .int .i64 0] 1 (Nat.le_refl _) (by decide) rfl
    have HLT := Lib.hid hlit
    have r9 := BlockIs.of HK3.out 9 _ rfl
    have hq3 : q < w3.heap.size := lt_of_block HK3.out
    clear hlit
    go_wp2_with (at_builtin; refine wpList_onto _ rfl (.tmp 65) (.tmp 69) 43 rfl w3.heap.size 49 _ 4 32 Try.underlying43 infoEvent rfl (by decide) _ 1 _ rfl HLT.out 1 [.int .i64 4, .int .i64 0, .int .i64 0, .int .i64 0] (.inr ⟨⟨eb, 0, none⟩, 1, rfl, fun j u hu => by rw [addr_add, Nat.zero_add]; exact Ext.alloc _ _ _ _ (BlockIs.of HE3.out j u (by simpa using hu))⟩) rfl (by simp [Value.oneCell']) (by decide) (by decide) (by simp) ?_)
    intro v' w4 hown4 hg4
    have hr4 : ∀ b, (Value.slice (some ⟨w3.heap.size, 0, none⟩) 1 1).ownBlock = some b → Typed (w3.alloc (.cells #[.int .i64 0, .int .i64 (-1), .int .i64 (-1), .int .i64 0] 49)) b 49 := fun b hb => own_typed HLT.out hb
    have hk4 := typed_apart (keep_blk HK3.out (balloc w3 (.cells #[.int .i64 0, .int .i64 (-1), .int .i64 (-1), .int .i64 0] 49))) hg4 hr4 (by decide)
    have hb4 : Below w3.heap.size w3 w4 := (balloc w3 _).grown hg4 (by simp) (fun k hk => by simp [Value.ownBlock] at hk; omega)
    obtain ⟨va, vc, hvs⟩ := own_shape hown4
    subst hvs
    have r9 := BlockIs.of hk4 9 _ rfl
    have rf9 : w4.frozen? ⟨q, 9, none⟩ = false := by unfold World.frozen?; rw [hk4]; simp
    have hsg := set_grown w4 q 9 (.slice va 2 vc)
    have htq : ∀ g', some q = some g' → Typed w4 g' 45 := fun g' hg' => by injection hg' with hg'; subst hg'; exact ⟨_, hk4⟩
    have hev5 : EventsV (w4.setCell ⟨q, 9, none⟩ (.slice va 2 vc)) (.slice va 2 vc) (⟨0, -1, -1, 0⟩ :: [⟨4, 0, 0, 0⟩]) := evRow (n := 2) rfl (own_apart hown4 hsg htq (by decide)) (by decide)
    have hk5 := blk_set hk4 9 (.slice va 2 vc)
    have HC5 := Lib.hid (HCZ.out.ext ((HEZ3.out.trans (Ext.below hb4)).set_new hqz 9 (.slice va 2 vc)))
    have HB5 : Hid (Below w.heap.size w (w4.setCell ⟨q, 9, none⟩ (.slice va 2 vc))) := Lib.hid ((bthen HB3.out hb4).setCell (p := ⟨q, 9, none⟩) hwq _)
    have HR5 : Hid (RowsV (w4.setCell ⟨q, 9, none⟩ (.slice va 2 vc)) (.slice (some ⟨q, 0, none⟩) 2 2) [⟨5, -1, false, 0, []⟩, ⟨6, (1), false, 1, ⟨0, -1, -1, 0⟩ :: [⟨4, 0, 0, 0⟩]⟩]) := Lib.hid (by
      have hB := BlockIs.of hk5
      exact slice2 (by decide) (row_of hB _ rfl rfl rfl rfl rfl rfl) ⟨hB 5 _ rfl, hB 6 _ rfl, hB 7 _ rfl, hB 8 _ rfl, _, hB 9 _ rfl, hev5⟩)
    have HC4 := Lib.hid (HCZ.out.ext (HEZ3.out.trans (Ext.below hb4)))
    have z0 := HC4.out.c0; have z1 := HC4.out.c1; have z2 := HC4.out.c2; have z3 := HC4.out.c3; have z4 := HC4.out.c4; unfold IntAt at z0 z1
    clear hown4 hg4 hr4 hk4 hb4 hsg htq hev5 hk5 HB3 HEZ3 HK3 HLT HCZ hqz HC4
    go_wp2_with fail
    refine (rows_any plainCfg _ _ [⟨5, -1, false, 0, []⟩, ⟨6, (1), false, 1, ⟨0, -1, -1, 0⟩ :: [⟨4, 0, 0, 0⟩]⟩] _ ⟨_, _, _, rfl, HC5.out.is⟩ HR5.out).mono ?_
    rw [HM2.out, if_pos (by decide)]
    rintro e w6 ⟨rfl, hb6⟩
    have HB6 := Lib.hid (bthen HB5.out hb6)
    clear hb6 HB5 HC5 HR5 z0 z1 z2 z3 z4 r9 rf9
    go_wp2_with (first | (go_at_call 11; refine (num_any _ _).mono ?_; rintro e w' ⟨rfl, hw⟩; subst w') | fail)
    go_ret
    exact ⟨rfl, HB6.out⟩
  · rw [if_neg (by decide)]
    rintro e w3 ⟨rfl, hb3⟩
    have HB3 := Lib.hid (bthen HBW.out hb3)
    have HEZ3 := Lib.hid (HEZ.out.trans (Ext.below hb3))
    have HK3 := Lib.hid (keep_blk HK.out hb3)
    have HE3 := Lib.hid (keep_blk HE.out hb3)
    clear HE
    clear hb3 HBW HCX HK HEZ hO HA HB
    have hlit : (w3.alloc (.cells #[.int .i64 0, .int .i64 (-1), .int .i64 (-1), .int .i64 0] 49)).ownsRow w3.heap.size 49 4 (.slice (some ⟨w3.heap.size, 0, none⟩) 1 1) 1 [.int .i64 0, .int .i64 (-1), .int .i64 (-1), .int .i64 0] := World.ownsRow_lit w3 #[.int .i64 0, .int .i64 (-1), .int .i64 (-1), .int .i64 0] 1 (Nat.le_refl _) (by decide) rfl
    have HLT := Lib.hid hlit
    have r9 := BlockIs.of HK3.out 9 _ rfl
    have hq3 : q < w3.heap.size := lt_of_block HK3.out
    clear hlit
    go_wp2_with (at_builtin; refine wpList_onto _ rfl (.tmp 65) (.tmp 69) 43 rfl w3.heap.size 49 _ 4 32 Try.underlying43 infoEvent rfl (by decide) _ 1 _ rfl HLT.out 1 [.int .i64 4, .int .i64 0, .int .i64 0, .int .i64 0] (.inr ⟨⟨eb, 0, none⟩, 1, rfl, fun j u hu => by rw [addr_add, Nat.zero_add]; exact Ext.alloc _ _ _ _ (BlockIs.of HE3.out j u (by simpa using hu))⟩) rfl (by simp [Value.oneCell']) (by decide) (by decide) (by simp) ?_)
    intro v' w4 hown4 hg4
    have hr4 : ∀ b, (Value.slice (some ⟨w3.heap.size, 0, none⟩) 1 1).ownBlock = some b → Typed (w3.alloc (.cells #[.int .i64 0, .int .i64 (-1), .int .i64 (-1), .int .i64 0] 49)) b 49 := fun b hb => own_typed HLT.out hb
    have hk4 := typed_apart (keep_blk HK3.out (balloc w3 (.cells #[.int .i64 0, .int .i64 (-1), .int .i64 (-1), .int .i64 0] 49))) hg4 hr4 (by decide)
    have hb4 : Below w3.heap.size w3 w4 := (balloc w3 _).grown hg4 (by simp) (fun k hk => by simp [Value.ownBlock] at hk; omega)
    obtain ⟨va, vc, hvs⟩ := own_shape hown4
    subst hvs
    have r9 := BlockIs.of hk4 9 _ rfl
    have rf9 : w4.frozen? ⟨q, 9, none⟩ = false := by unfold World.frozen?; rw [hk4]; simp
    have hsg := set_grown w4 q 9 (.slice va 2 vc)
    have htq : ∀ g', some q = some g' → Typed w4 g' 45 := fun g' hg' => by injection hg' with hg'; subst hg'; exact ⟨_, hk4⟩
    have hev5 : EventsV (w4.setCell ⟨q, 9, none⟩ (.slice va 2 vc)) (.slice va 2 vc) (⟨0, -1, -1, 0⟩ :: [⟨4, 0, 0, 0⟩]) := evRow (n := 2) rfl (own_apart hown4 hsg htq (by decide)) (by decide)
    have hk5 := blk_set hk4 9 (.slice va 2 vc)
    have HC5 := Lib.hid (HCZ.out.ext ((HEZ3.out.trans (Ext.below hb4)).set_new hqz 9 (.slice va 2 vc)))
    have HB5 : Hid (Below w.heap.size w (w4.setCell ⟨q, 9, none⟩ (.slice va 2 vc))) := Lib.hid ((bthen HB3.out hb4).setCell (p := ⟨q, 9, none⟩) hwq _)
    have HR5 : Hid (RowsV (w4.setCell ⟨q, 9, none⟩ (.slice va 2 vc)) (.slice (some ⟨q, 0, none⟩) 2 2) [⟨5, -1, false, 1, []⟩, ⟨6, (1), false, 0, ⟨0, -1, -1, 0⟩ :: [⟨4, 0, 0, 0⟩]⟩]) := Lib.hid (by
      have hB := BlockIs.of hk5
      exact slice2 (by decide) (row_of hB _ rfl rfl rfl rfl rfl rfl) ⟨hB 5 _ rfl, hB 6 _ rfl, hB 7 _ rfl, hB 8 _ rfl, _, hB 9 _ rfl, hev5⟩)
    have HC4 := Lib.hid (HCZ.out.ext (HEZ3.out.trans (Ext.below hb4)))
    have z0 := HC4.out.c0; have z1 := HC4.out.c1; have z2 := HC4.out.c2; have z3 := HC4.out.c3; have z4 := HC4.out.c4; unfold IntAt at z0 z1
    clear hown4 hg4 hr4 hk4 hb4 hsg htq hev5 hk5 HB3 HEZ3 HK3 HLT HCZ hqz HC4
    go_wp2_with fail
    refine (rows_any plainCfg _ _ [⟨5, -1, false, 1, []⟩, ⟨6, (1), false, 0, ⟨0, -1, -1, 0⟩ :: [⟨4, 0, 0, 0⟩]⟩] _ ⟨_, _, _, rfl, HC5.out.is⟩ HR5.out).mono ?_
    rw [HM2.out, if_neg (by decide)]
    rintro e w6 ⟨rfl, hb6⟩
    have HB6 := Lib.hid (bthen HB5.out hb6)
    clear hb6 HB5 HC5 HR5 z0 z1 z2 z3 z4 r9 rf9
    go_wp2_with (first | (go_at_call 11; refine (num_any _ _).mono ?_; rintro e w' ⟨rfl, hw⟩; subst w') | fail)
    go_ret
    exact ⟨rfl, HB6.out⟩
  · rw [if_neg (by decide)]
    rintro e w3 ⟨rfl, hb3⟩
    have HB3 := Lib.hid (bthen HBW.out hb3)
    have HEZ3 := Lib.hid (HEZ.out.trans (Ext.below hb3))
    have HK3 := Lib.hid (keep_blk HK.out hb3)
    have HE3 := Lib.hid (keep_blk HE.out hb3)
    clear HE
    clear hb3 HBW HCX HK HEZ hO HA HB
    have hlit : (w3.alloc (.cells #[.int .i64 0, .int .i64 (-1), .int .i64 (-1), .int .i64 0] 49)).ownsRow w3.heap.size 49 4 (.slice (some ⟨w3.heap.size, 0, none⟩) 1 1) 1 [.int .i64 0, .int .i64 (-1), .int .i64 (-1), .int .i64 0] := World.ownsRow_lit w3 #[.int .i64 0, .int .i64 (-1), .int .i64 (-1), .int .i64 0] 1 (Nat.le_refl _) (by decide) rfl
    have HLT := Lib.hid hlit
    have r9 := BlockIs.of HK3.out 9 _ rfl
    have hq3 : q < w3.heap.size := lt_of_block HK3.out
    clear hlit
    go_wp2_with (at_builtin; refine wpList_onto _ rfl (.tmp 65) (.tmp 69) 43 rfl w3.heap.size 49 _ 4 32 Try.underlying43 infoEvent rfl (by decide) _ 1 _ rfl HLT.out 1 [.int .i64 4, .int .i64 0, .int .i64 0, .int .i64 0] (.inr ⟨⟨eb, 0, none⟩, 1, rfl, fun j u hu => by rw [addr_add, Nat.zero_add]; exact Ext.alloc _ _ _ _ (BlockIs.of HE3.out j u (by simpa using hu))⟩) rfl (by simp [Value.oneCell']) (by decide) (by decide) (by simp) ?_)
    intro v' w4 hown4 hg4
    have hr4 : ∀ b, (Value.slice (some ⟨w3.heap.size, 0, none⟩) 1 1).ownBlock = some b → Typed (w3.alloc (.cells #[.int .i64 0, .int .i64 (-1), .int .i64 (-1), .int .i64 0] 49)) b 49 := fun b hb => own_typed HLT.out hb
    have hk4 := typed_apart (keep_blk HK3.out (balloc w3 (.cells #[.int .i64 0, .int .i64 (-1), .int .i64 (-1), .int .i64 0] 49))) hg4 hr4 (by decide)
    have hb4 : Below w3.heap.size w3 w4 := (balloc w3 _).grown hg4 (by simp) (fun k hk => by simp [Value.ownBlock] at hk; omega)
    obtain ⟨va, vc, hvs⟩ := own_shape hown4
    subst hvs
    have r9 := BlockIs.of hk4 9 _ rfl
    have rf9 : w4.frozen? ⟨q, 9, none⟩ = false := by unfold World.frozen?; rw [hk4]; simp
    have hsg := set_grown w4 q 9 (.slice va 2 vc)
    have htq : ∀ g', some q = some g' → Typed w4 g' 45 := fun g' hg' => by injection hg' with hg'; subst hg'; exact ⟨_, hk4⟩
    have hev5 : EventsV (w4.setCell ⟨q, 9, none⟩ (.slice va 2 vc)) (.slice va 2 vc) (⟨0, -1, -1, 0⟩ :: [⟨4, 0, 0, 0⟩]) := evRow (n := 2) rfl (own_apart hown4 hsg htq (by decide)) (by decide)
    have hk5 := blk_set hk4 9 (.slice va 2 vc)
    have HC5 := Lib.hid (HCZ.out.ext ((HEZ3.out.trans (Ext.below hb4)).set_new hqz 9 (.slice va 2 vc)))
    have HB5 : Hid (Below w.heap.size w (w4.setCell ⟨q, 9, none⟩ (.slice va 2 vc))) := Lib.hid ((bthen HB3.out hb4).setCell (p := ⟨q, 9, none⟩) hwq _)
    have HR5 : Hid (RowsV (w4.setCell ⟨q, 9, none⟩ (.slice va 2 vc)) (.slice (some ⟨q, 0, none⟩) 2 2) [⟨5, -1, false, 1, []⟩, ⟨6, (1), false, 1, ⟨0, -1, -1, 0⟩ :: [⟨4, 0, 0, 0⟩]⟩]) := Lib.hid (by
      have hB := BlockIs.of hk5
      exact slice2 (by decide) (row_of hB _ rfl rfl rfl rfl rfl rfl) ⟨hB 5 _ rfl, hB 6 _ rfl, hB 7 _ rfl, hB 8 _ rfl, _, hB 9 _ rfl, hev5⟩)
    have HC4 := Lib.hid (HCZ.out.ext (HEZ3.out.trans (Ext.below hb4)))
    have z0 := HC4.out.c0; have z1 := HC4.out.c1; have z2 := HC4.out.c2; have z3 := HC4.out.c3; have z4 := HC4.out.c4; unfold IntAt at z0 z1
    clear hown4 hg4 hr4 hk4 hb4 hsg htq hev5 hk5 HB3 HEZ3 HK3 HLT HCZ hqz HC4
    go_wp2_with fail
    refine (rows_any plainCfg _ _ [⟨5, -1, false, 1, []⟩, ⟨6, (1), false, 1, ⟨0, -1, -1, 0⟩ :: [⟨4, 0, 0, 0⟩]⟩] _ ⟨_, _, _, rfl, HC5.out.is⟩ HR5.out).mono ?_
    rw [HM2.out, if_pos (by decide)]
    rintro e w6 ⟨rfl, hb6⟩
    have HB6 := Lib.hid (bthen HB5.out hb6)
    clear hb6 HB5 HC5 HR5 z0 z1 z2 z3 z4 r9 rf9
    go_wp2_with (first | (go_at_call 11; refine (num_any _ _).mono ?_; rintro e w' ⟨rfl, hw⟩; subst w') | fail)
    go_ret
    exact ⟨rfl, HB6.out⟩
set_option maxRecDepth 100000 in
set_option maxHeartbeats 12000000 in
theorem auditModes_false (ow was now : Int) (w : World) :
    Calls Try.prog 5 #[.int .i64 ow, .int .i64 was, .bool false, .int .i64 now] w fun e w' => e = .returned (.bool true) ∧ Below w.heap.size w w' := by
  obtain ⟨A, ha, hA⟩ := i64_and1' was
  obtain ⟨B, hb, hB⟩ := i64_and1' now
  obtain ⟨m, hm0, hm1⟩ := mod_u64 ow 3 (by decide)
  rw [show ((3 : Nat) : Int) = 3 from rfl] at hm0
  obtain ⟨o, ho⟩ : ∃ o : Int, o = (m : Int) - 1 := ⟨_, rfl⟩
  have ho2 : (m : Int) - 1 = o := ho.symm
  have ho3 : IntKind.i64.wrap o = o := by rw [IntKind.wrap_i64]; omega
  have hO := Lib.hid (show o = -1 ∨ o = 0 ∨ o = 1 by omega)
  have HA := Lib.hid hA
  have HB := Lib.hid hB
  clear ho hA hB
  go_enter Try.func5, Try.ntmps5
  go_wp2_with fail
  refine (awake24_any w).mono ?_
  rintro e w0 ⟨rfl, hb0⟩
  have HB0 := Lib.hid hb0
  clear hb0
  go_wp2_with fail
  refine (plain24_any w0).mono ?_
  rintro e w1 ⟨v, rfl, hc, hb1⟩
  obtain ⟨pv, wv, ov, rfl, hcfg⟩ := hc
  obtain ⟨pa, pk, wa, wk, oa, ok, rfl, rfl, rfl⟩ := hcfg.shape
  have HB1 := Lib.hid (bthen HB0.out hb1)
  have HC := Lib.hid hcfg
  clear hb1 hcfg HB0
  go_wp2_with fail
  obtain ⟨W2, hW2⟩ : ∃ W2, W2 = (w1.alloc (.cells #[.int .i64 plainCfg.frame, .int .i64 plainCfg.quiet, .slice pa plainCfg.parts.length pk, .slice wa plainCfg.windows.length wk, .slice oa plainCfg.ports.length ok] 26)).alloc (.cells #[.int .i64 5, .int .i64 (-1), .bool false, .int .i64 A, .slice none 0 0, .int .i64 6, .int .i64 o, .bool false, .int .i64 B, .slice none 0 0] 45) := ⟨_, rfl⟩
  have hbw : Below w.heap.size w W2 := by rw [hW2]; exact bthen HB1.out (bthen (balloc _ _) (balloc _ _))
  have hcx : CfgC W2 w1.heap.size (.slice pa plainCfg.parts.length pk) (.slice wa plainCfg.windows.length wk) (.slice oa plainCfg.ports.length ok) plainCfg := by rw [hW2]; exact (cfg_box w1 plainCfg _ _ _ 26 HC.out).ext (Ext.alloc _ _)
  have hbr : W2.heap[w1.heap.size + 1]? = some (.cells #[.int .i64 5, .int .i64 (-1), .bool false, .int .i64 A, .slice none 0 0, .int .i64 6, .int .i64 o, .bool false, .int .i64 B, .slice none 0 0] 45 (0, 0)) := by rw [hW2]; simp only [heap_push, Array.getElem?_push, Array.size_push]; simp
  rw [← hW2]
  obtain ⟨wz, hwz⟩ : ∃ wz, wz = w1.alloc (.cells #[.int .i64 plainCfg.frame, .int .i64 plainCfg.quiet, .slice pa plainCfg.parts.length pk, .slice wa plainCfg.windows.length wk, .slice oa plainCfg.ports.length ok] 26) := ⟨_, rfl⟩
  have HCZ0 := cfg_box w1 plainCfg _ _ _ 26 HC.out
  rw [← hwz] at HCZ0
  have HEZ : Hid (Ext wz W2) := Lib.hid (by rw [hW2, hwz]; exact Ext.alloc _ _)
  obtain ⟨g, hg⟩ : ∃ g, g = w1.heap.size := ⟨_, rfl⟩
  obtain ⟨q, hq⟩ : ∃ q, q = g + 1 := ⟨_, rfl⟩
  have hqz : wz.heap.size ≤ q := by rw [hwz, hq, hg]; simp
  rw [← hg] at HCZ0
  have HCZ := Lib.hid HCZ0
  rw [← hg] at hcx
  rw [← hg, ← hq] at hbr
  rw [← hg, ← hq]
  have hgq : g ≠ q := by omega
  have hwq : w.heap.size ≤ q := by have := HB1.out.size; omega
  have HCX := Lib.hid hcx
  have HK := Lib.hid hbr
  have HBW := Lib.hid hbw
  clear hbw hcx hbr hW2 hwz hg hq HC HB1 HCZ0
  have HEVV : Hid (∀ W, EventsV W (.slice none 0 0) []) := Lib.hid (fun W => slice0 _ _ _ _)
  have HR : Hid (RowsV W2 (.slice (some ⟨q, 0, none⟩) 2 2) [⟨5, -1, false, A, []⟩, ⟨6, o, false, B, []⟩]) := Lib.hid (by
    have hB := BlockIs.of HK.out
    exact slice2 (by decide) (row_of hB _ rfl rfl rfl rfl rfl rfl) ⟨hB 5 _ rfl, hB 6 _ rfl, hB 7 _ rfl, hB 8 _ rfl, _, hB 9 _ rfl, HEVV.out _⟩)
  refine (rows_any plainCfg _ _ [⟨5, -1, false, A, []⟩, ⟨6, o, false, B, []⟩] _ ⟨_, _, _, rfl, HCX.out.is⟩ HR.out).mono ?_
  have M1 := modes1 o A B false hO.out HA.out HB.out
  have M2 := modes2 o A B false hO.out HA.out HB.out
  simp only [if_true, if_false, Bool.false_eq_true, Bool.true_eq_false, reduceIte] at M1 M2
  rw [M1]
  have HM2 := Lib.hid M2
  clear M1 M2 HR
  obtain ho := hO.out
  obtain hA := HA.out
  obtain hB := HB.out
  rcases ho with rfl | rfl | rfl <;> rcases hA with rfl | rfl <;> rcases hB with rfl | rfl
  · rw [if_pos (by decide)]
    rintro e w3 ⟨rfl, hb3⟩
    have HB3 := Lib.hid (bthen HBW.out hb3)
    have HEZ3 := Lib.hid (HEZ.out.trans (Ext.below hb3))
    have HK3 := Lib.hid (keep_blk HK.out hb3)
    clear hb3 HBW HCX HK HEZ hO HA HB
    have hlit : (w3.alloc (.cells #[.int .i64 0, .int .i64 (-1), .int .i64 (-1), .int .i64 0] 49)).ownsRow w3.heap.size 49 4 (.slice (some ⟨w3.heap.size, 0, none⟩) 1 1) 1 [.int .i64 0, .int .i64 (-1), .int .i64 (-1), .int .i64 0] := World.ownsRow_lit w3 #[.int .i64 0, .int .i64 (-1), .int .i64 (-1), .int .i64 0] 1 (Nat.le_refl _) (by decide) rfl
    have HLT := Lib.hid hlit
    have r9 := BlockIs.of HK3.out 9 _ rfl
    have hq3 : q < w3.heap.size := lt_of_block HK3.out
    clear hlit
    go_wp2_with (at_builtin; refine wpList_onto _ rfl (.tmp 65) (.tmp 69) 43 rfl w3.heap.size 49 _ 4 32 Try.underlying43 infoEvent rfl (by decide) _ 1 _ rfl HLT.out 0 [] (.inl ⟨0, rfl, rfl, rfl⟩) rfl (by simp [Value.oneCell']) (by decide) (by decide) (by simp) ?_)
    intro v' w4 hown4 hg4
    have hr4 : ∀ b, (Value.slice (some ⟨w3.heap.size, 0, none⟩) 1 1).ownBlock = some b → Typed (w3.alloc (.cells #[.int .i64 0, .int .i64 (-1), .int .i64 (-1), .int .i64 0] 49)) b 49 := fun b hb => own_typed HLT.out hb
    have hk4 := typed_apart (keep_blk HK3.out (balloc w3 (.cells #[.int .i64 0, .int .i64 (-1), .int .i64 (-1), .int .i64 0] 49))) hg4 hr4 (by decide)
    have hb4 : Below w3.heap.size w3 w4 := (balloc w3 _).grown hg4 (by simp) (fun k hk => by simp [Value.ownBlock] at hk; omega)
    obtain ⟨va, vc, hvs⟩ := own_shape hown4
    subst hvs
    have r9 := BlockIs.of hk4 9 _ rfl
    have rf9 : w4.frozen? ⟨q, 9, none⟩ = false := by unfold World.frozen?; rw [hk4]; simp
    have hsg := set_grown w4 q 9 (.slice va 1 vc)
    have htq : ∀ g', some q = some g' → Typed w4 g' 45 := fun g' hg' => by injection hg' with hg'; subst hg'; exact ⟨_, hk4⟩
    have hev5 : EventsV (w4.setCell ⟨q, 9, none⟩ (.slice va 1 vc)) (.slice va 1 vc) (⟨0, -1, -1, 0⟩ :: []) := evRow (n := 1) rfl (own_apart hown4 hsg htq (by decide)) (by decide)
    have hk5 := blk_set hk4 9 (.slice va 1 vc)
    have HC5 := Lib.hid (HCZ.out.ext ((HEZ3.out.trans (Ext.below hb4)).set_new hqz 9 (.slice va 1 vc)))
    have HB5 : Hid (Below w.heap.size w (w4.setCell ⟨q, 9, none⟩ (.slice va 1 vc))) := Lib.hid ((bthen HB3.out hb4).setCell (p := ⟨q, 9, none⟩) hwq _)
    have HR5 : Hid (RowsV (w4.setCell ⟨q, 9, none⟩ (.slice va 1 vc)) (.slice (some ⟨q, 0, none⟩) 2 2) [⟨5, -1, false, 0, []⟩, ⟨6, (-1), false, 0, ⟨0, -1, -1, 0⟩ :: []⟩]) := Lib.hid (by
      have hB := BlockIs.of hk5
      exact slice2 (by decide) (row_of hB _ rfl rfl rfl rfl rfl rfl) ⟨hB 5 _ rfl, hB 6 _ rfl, hB 7 _ rfl, hB 8 _ rfl, _, hB 9 _ rfl, hev5⟩)
    have HC4 := Lib.hid (HCZ.out.ext (HEZ3.out.trans (Ext.below hb4)))
    have z0 := HC4.out.c0; have z1 := HC4.out.c1; have z2 := HC4.out.c2; have z3 := HC4.out.c3; have z4 := HC4.out.c4; unfold IntAt at z0 z1
    clear hown4 hg4 hr4 hk4 hb4 hsg htq hev5 hk5 HB3 HEZ3 HK3 HLT HCZ hqz HC4
    go_wp2_with fail
    refine (rows_any plainCfg _ _ [⟨5, -1, false, 0, []⟩, ⟨6, (-1), false, 0, ⟨0, -1, -1, 0⟩ :: []⟩] _ ⟨_, _, _, rfl, HC5.out.is⟩ HR5.out).mono ?_
    rw [HM2.out, if_pos (by decide)]
    rintro e w6 ⟨rfl, hb6⟩
    have HB6 := Lib.hid (bthen HB5.out hb6)
    clear hb6 HB5 HC5 HR5 z0 z1 z2 z3 z4 r9 rf9
    go_wp2_with (first | (go_at_call 11; refine (num_any _ _).mono ?_; rintro e w' ⟨rfl, hw⟩; subst w') | fail)
    go_ret
    exact ⟨rfl, HB6.out⟩
  · rw [if_pos (by decide)]
    rintro e w3 ⟨rfl, hb3⟩
    have HB3 := Lib.hid (bthen HBW.out hb3)
    have HEZ3 := Lib.hid (HEZ.out.trans (Ext.below hb3))
    have HK3 := Lib.hid (keep_blk HK.out hb3)
    clear hb3 HBW HCX HK HEZ hO HA HB
    have hlit : (w3.alloc (.cells #[.int .i64 0, .int .i64 (-1), .int .i64 (-1), .int .i64 0] 49)).ownsRow w3.heap.size 49 4 (.slice (some ⟨w3.heap.size, 0, none⟩) 1 1) 1 [.int .i64 0, .int .i64 (-1), .int .i64 (-1), .int .i64 0] := World.ownsRow_lit w3 #[.int .i64 0, .int .i64 (-1), .int .i64 (-1), .int .i64 0] 1 (Nat.le_refl _) (by decide) rfl
    have HLT := Lib.hid hlit
    have r9 := BlockIs.of HK3.out 9 _ rfl
    have hq3 : q < w3.heap.size := lt_of_block HK3.out
    clear hlit
    go_wp2_with (at_builtin; refine wpList_onto _ rfl (.tmp 65) (.tmp 69) 43 rfl w3.heap.size 49 _ 4 32 Try.underlying43 infoEvent rfl (by decide) _ 1 _ rfl HLT.out 0 [] (.inl ⟨0, rfl, rfl, rfl⟩) rfl (by simp [Value.oneCell']) (by decide) (by decide) (by simp) ?_)
    intro v' w4 hown4 hg4
    have hr4 : ∀ b, (Value.slice (some ⟨w3.heap.size, 0, none⟩) 1 1).ownBlock = some b → Typed (w3.alloc (.cells #[.int .i64 0, .int .i64 (-1), .int .i64 (-1), .int .i64 0] 49)) b 49 := fun b hb => own_typed HLT.out hb
    have hk4 := typed_apart (keep_blk HK3.out (balloc w3 (.cells #[.int .i64 0, .int .i64 (-1), .int .i64 (-1), .int .i64 0] 49))) hg4 hr4 (by decide)
    have hb4 : Below w3.heap.size w3 w4 := (balloc w3 _).grown hg4 (by simp) (fun k hk => by simp [Value.ownBlock] at hk; omega)
    obtain ⟨va, vc, hvs⟩ := own_shape hown4
    subst hvs
    have r9 := BlockIs.of hk4 9 _ rfl
    have rf9 : w4.frozen? ⟨q, 9, none⟩ = false := by unfold World.frozen?; rw [hk4]; simp
    have hsg := set_grown w4 q 9 (.slice va 1 vc)
    have htq : ∀ g', some q = some g' → Typed w4 g' 45 := fun g' hg' => by injection hg' with hg'; subst hg'; exact ⟨_, hk4⟩
    have hev5 : EventsV (w4.setCell ⟨q, 9, none⟩ (.slice va 1 vc)) (.slice va 1 vc) (⟨0, -1, -1, 0⟩ :: []) := evRow (n := 1) rfl (own_apart hown4 hsg htq (by decide)) (by decide)
    have hk5 := blk_set hk4 9 (.slice va 1 vc)
    have HC5 := Lib.hid (HCZ.out.ext ((HEZ3.out.trans (Ext.below hb4)).set_new hqz 9 (.slice va 1 vc)))
    have HB5 : Hid (Below w.heap.size w (w4.setCell ⟨q, 9, none⟩ (.slice va 1 vc))) := Lib.hid ((bthen HB3.out hb4).setCell (p := ⟨q, 9, none⟩) hwq _)
    have HR5 : Hid (RowsV (w4.setCell ⟨q, 9, none⟩ (.slice va 1 vc)) (.slice (some ⟨q, 0, none⟩) 2 2) [⟨5, -1, false, 0, []⟩, ⟨6, (-1), false, 1, ⟨0, -1, -1, 0⟩ :: []⟩]) := Lib.hid (by
      have hB := BlockIs.of hk5
      exact slice2 (by decide) (row_of hB _ rfl rfl rfl rfl rfl rfl) ⟨hB 5 _ rfl, hB 6 _ rfl, hB 7 _ rfl, hB 8 _ rfl, _, hB 9 _ rfl, hev5⟩)
    have HC4 := Lib.hid (HCZ.out.ext (HEZ3.out.trans (Ext.below hb4)))
    have z0 := HC4.out.c0; have z1 := HC4.out.c1; have z2 := HC4.out.c2; have z3 := HC4.out.c3; have z4 := HC4.out.c4; unfold IntAt at z0 z1
    clear hown4 hg4 hr4 hk4 hb4 hsg htq hev5 hk5 HB3 HEZ3 HK3 HLT HCZ hqz HC4
    go_wp2_with fail
    refine (rows_any plainCfg _ _ [⟨5, -1, false, 0, []⟩, ⟨6, (-1), false, 1, ⟨0, -1, -1, 0⟩ :: []⟩] _ ⟨_, _, _, rfl, HC5.out.is⟩ HR5.out).mono ?_
    rw [HM2.out, if_pos (by decide)]
    rintro e w6 ⟨rfl, hb6⟩
    have HB6 := Lib.hid (bthen HB5.out hb6)
    clear hb6 HB5 HC5 HR5 z0 z1 z2 z3 z4 r9 rf9
    go_wp2_with (first | (go_at_call 11; refine (num_any _ _).mono ?_; rintro e w' ⟨rfl, hw⟩; subst w') | fail)
    go_ret
    exact ⟨rfl, HB6.out⟩
  · rw [if_pos (by decide)]
    rintro e w3 ⟨rfl, hb3⟩
    have HB3 := Lib.hid (bthen HBW.out hb3)
    have HEZ3 := Lib.hid (HEZ.out.trans (Ext.below hb3))
    have HK3 := Lib.hid (keep_blk HK.out hb3)
    clear hb3 HBW HCX HK HEZ hO HA HB
    have hlit : (w3.alloc (.cells #[.int .i64 0, .int .i64 (-1), .int .i64 (-1), .int .i64 0] 49)).ownsRow w3.heap.size 49 4 (.slice (some ⟨w3.heap.size, 0, none⟩) 1 1) 1 [.int .i64 0, .int .i64 (-1), .int .i64 (-1), .int .i64 0] := World.ownsRow_lit w3 #[.int .i64 0, .int .i64 (-1), .int .i64 (-1), .int .i64 0] 1 (Nat.le_refl _) (by decide) rfl
    have HLT := Lib.hid hlit
    have r9 := BlockIs.of HK3.out 9 _ rfl
    have hq3 : q < w3.heap.size := lt_of_block HK3.out
    clear hlit
    go_wp2_with (at_builtin; refine wpList_onto _ rfl (.tmp 65) (.tmp 69) 43 rfl w3.heap.size 49 _ 4 32 Try.underlying43 infoEvent rfl (by decide) _ 1 _ rfl HLT.out 0 [] (.inl ⟨0, rfl, rfl, rfl⟩) rfl (by simp [Value.oneCell']) (by decide) (by decide) (by simp) ?_)
    intro v' w4 hown4 hg4
    have hr4 : ∀ b, (Value.slice (some ⟨w3.heap.size, 0, none⟩) 1 1).ownBlock = some b → Typed (w3.alloc (.cells #[.int .i64 0, .int .i64 (-1), .int .i64 (-1), .int .i64 0] 49)) b 49 := fun b hb => own_typed HLT.out hb
    have hk4 := typed_apart (keep_blk HK3.out (balloc w3 (.cells #[.int .i64 0, .int .i64 (-1), .int .i64 (-1), .int .i64 0] 49))) hg4 hr4 (by decide)
    have hb4 : Below w3.heap.size w3 w4 := (balloc w3 _).grown hg4 (by simp) (fun k hk => by simp [Value.ownBlock] at hk; omega)
    obtain ⟨va, vc, hvs⟩ := own_shape hown4
    subst hvs
    have r9 := BlockIs.of hk4 9 _ rfl
    have rf9 : w4.frozen? ⟨q, 9, none⟩ = false := by unfold World.frozen?; rw [hk4]; simp
    have hsg := set_grown w4 q 9 (.slice va 1 vc)
    have htq : ∀ g', some q = some g' → Typed w4 g' 45 := fun g' hg' => by injection hg' with hg'; subst hg'; exact ⟨_, hk4⟩
    have hev5 : EventsV (w4.setCell ⟨q, 9, none⟩ (.slice va 1 vc)) (.slice va 1 vc) (⟨0, -1, -1, 0⟩ :: []) := evRow (n := 1) rfl (own_apart hown4 hsg htq (by decide)) (by decide)
    have hk5 := blk_set hk4 9 (.slice va 1 vc)
    have HC5 := Lib.hid (HCZ.out.ext ((HEZ3.out.trans (Ext.below hb4)).set_new hqz 9 (.slice va 1 vc)))
    have HB5 : Hid (Below w.heap.size w (w4.setCell ⟨q, 9, none⟩ (.slice va 1 vc))) := Lib.hid ((bthen HB3.out hb4).setCell (p := ⟨q, 9, none⟩) hwq _)
    have HR5 : Hid (RowsV (w4.setCell ⟨q, 9, none⟩ (.slice va 1 vc)) (.slice (some ⟨q, 0, none⟩) 2 2) [⟨5, -1, false, 1, []⟩, ⟨6, (-1), false, 0, ⟨0, -1, -1, 0⟩ :: []⟩]) := Lib.hid (by
      have hB := BlockIs.of hk5
      exact slice2 (by decide) (row_of hB _ rfl rfl rfl rfl rfl rfl) ⟨hB 5 _ rfl, hB 6 _ rfl, hB 7 _ rfl, hB 8 _ rfl, _, hB 9 _ rfl, hev5⟩)
    have HC4 := Lib.hid (HCZ.out.ext (HEZ3.out.trans (Ext.below hb4)))
    have z0 := HC4.out.c0; have z1 := HC4.out.c1; have z2 := HC4.out.c2; have z3 := HC4.out.c3; have z4 := HC4.out.c4; unfold IntAt at z0 z1
    clear hown4 hg4 hr4 hk4 hb4 hsg htq hev5 hk5 HB3 HEZ3 HK3 HLT HCZ hqz HC4
    go_wp2_with fail
    refine (rows_any plainCfg _ _ [⟨5, -1, false, 1, []⟩, ⟨6, (-1), false, 0, ⟨0, -1, -1, 0⟩ :: []⟩] _ ⟨_, _, _, rfl, HC5.out.is⟩ HR5.out).mono ?_
    rw [HM2.out, if_pos (by decide)]
    rintro e w6 ⟨rfl, hb6⟩
    have HB6 := Lib.hid (bthen HB5.out hb6)
    clear hb6 HB5 HC5 HR5 z0 z1 z2 z3 z4 r9 rf9
    go_wp2_with (first | (go_at_call 11; refine (num_any _ _).mono ?_; rintro e w' ⟨rfl, hw⟩; subst w') | fail)
    go_ret
    exact ⟨rfl, HB6.out⟩
  · rw [if_pos (by decide)]
    rintro e w3 ⟨rfl, hb3⟩
    have HB3 := Lib.hid (bthen HBW.out hb3)
    have HEZ3 := Lib.hid (HEZ.out.trans (Ext.below hb3))
    have HK3 := Lib.hid (keep_blk HK.out hb3)
    clear hb3 HBW HCX HK HEZ hO HA HB
    have hlit : (w3.alloc (.cells #[.int .i64 0, .int .i64 (-1), .int .i64 (-1), .int .i64 0] 49)).ownsRow w3.heap.size 49 4 (.slice (some ⟨w3.heap.size, 0, none⟩) 1 1) 1 [.int .i64 0, .int .i64 (-1), .int .i64 (-1), .int .i64 0] := World.ownsRow_lit w3 #[.int .i64 0, .int .i64 (-1), .int .i64 (-1), .int .i64 0] 1 (Nat.le_refl _) (by decide) rfl
    have HLT := Lib.hid hlit
    have r9 := BlockIs.of HK3.out 9 _ rfl
    have hq3 : q < w3.heap.size := lt_of_block HK3.out
    clear hlit
    go_wp2_with (at_builtin; refine wpList_onto _ rfl (.tmp 65) (.tmp 69) 43 rfl w3.heap.size 49 _ 4 32 Try.underlying43 infoEvent rfl (by decide) _ 1 _ rfl HLT.out 0 [] (.inl ⟨0, rfl, rfl, rfl⟩) rfl (by simp [Value.oneCell']) (by decide) (by decide) (by simp) ?_)
    intro v' w4 hown4 hg4
    have hr4 : ∀ b, (Value.slice (some ⟨w3.heap.size, 0, none⟩) 1 1).ownBlock = some b → Typed (w3.alloc (.cells #[.int .i64 0, .int .i64 (-1), .int .i64 (-1), .int .i64 0] 49)) b 49 := fun b hb => own_typed HLT.out hb
    have hk4 := typed_apart (keep_blk HK3.out (balloc w3 (.cells #[.int .i64 0, .int .i64 (-1), .int .i64 (-1), .int .i64 0] 49))) hg4 hr4 (by decide)
    have hb4 : Below w3.heap.size w3 w4 := (balloc w3 _).grown hg4 (by simp) (fun k hk => by simp [Value.ownBlock] at hk; omega)
    obtain ⟨va, vc, hvs⟩ := own_shape hown4
    subst hvs
    have r9 := BlockIs.of hk4 9 _ rfl
    have rf9 : w4.frozen? ⟨q, 9, none⟩ = false := by unfold World.frozen?; rw [hk4]; simp
    have hsg := set_grown w4 q 9 (.slice va 1 vc)
    have htq : ∀ g', some q = some g' → Typed w4 g' 45 := fun g' hg' => by injection hg' with hg'; subst hg'; exact ⟨_, hk4⟩
    have hev5 : EventsV (w4.setCell ⟨q, 9, none⟩ (.slice va 1 vc)) (.slice va 1 vc) (⟨0, -1, -1, 0⟩ :: []) := evRow (n := 1) rfl (own_apart hown4 hsg htq (by decide)) (by decide)
    have hk5 := blk_set hk4 9 (.slice va 1 vc)
    have HC5 := Lib.hid (HCZ.out.ext ((HEZ3.out.trans (Ext.below hb4)).set_new hqz 9 (.slice va 1 vc)))
    have HB5 : Hid (Below w.heap.size w (w4.setCell ⟨q, 9, none⟩ (.slice va 1 vc))) := Lib.hid ((bthen HB3.out hb4).setCell (p := ⟨q, 9, none⟩) hwq _)
    have HR5 : Hid (RowsV (w4.setCell ⟨q, 9, none⟩ (.slice va 1 vc)) (.slice (some ⟨q, 0, none⟩) 2 2) [⟨5, -1, false, 1, []⟩, ⟨6, (-1), false, 1, ⟨0, -1, -1, 0⟩ :: []⟩]) := Lib.hid (by
      have hB := BlockIs.of hk5
      exact slice2 (by decide) (row_of hB _ rfl rfl rfl rfl rfl rfl) ⟨hB 5 _ rfl, hB 6 _ rfl, hB 7 _ rfl, hB 8 _ rfl, _, hB 9 _ rfl, hev5⟩)
    have HC4 := Lib.hid (HCZ.out.ext (HEZ3.out.trans (Ext.below hb4)))
    have z0 := HC4.out.c0; have z1 := HC4.out.c1; have z2 := HC4.out.c2; have z3 := HC4.out.c3; have z4 := HC4.out.c4; unfold IntAt at z0 z1
    clear hown4 hg4 hr4 hk4 hb4 hsg htq hev5 hk5 HB3 HEZ3 HK3 HLT HCZ hqz HC4
    go_wp2_with fail
    refine (rows_any plainCfg _ _ [⟨5, -1, false, 1, []⟩, ⟨6, (-1), false, 1, ⟨0, -1, -1, 0⟩ :: []⟩] _ ⟨_, _, _, rfl, HC5.out.is⟩ HR5.out).mono ?_
    rw [HM2.out, if_pos (by decide)]
    rintro e w6 ⟨rfl, hb6⟩
    have HB6 := Lib.hid (bthen HB5.out hb6)
    clear hb6 HB5 HC5 HR5 z0 z1 z2 z3 z4 r9 rf9
    go_wp2_with (first | (go_at_call 11; refine (num_any _ _).mono ?_; rintro e w' ⟨rfl, hw⟩; subst w') | fail)
    go_ret
    exact ⟨rfl, HB6.out⟩
  · rw [if_neg (by decide)]
    rintro e w3 ⟨rfl, hb3⟩
    have HB3 := Lib.hid (bthen HBW.out hb3)
    have HEZ3 := Lib.hid (HEZ.out.trans (Ext.below hb3))
    have HK3 := Lib.hid (keep_blk HK.out hb3)
    clear hb3 HBW HCX HK HEZ hO HA HB
    have hlit : (w3.alloc (.cells #[.int .i64 0, .int .i64 (-1), .int .i64 (-1), .int .i64 0] 49)).ownsRow w3.heap.size 49 4 (.slice (some ⟨w3.heap.size, 0, none⟩) 1 1) 1 [.int .i64 0, .int .i64 (-1), .int .i64 (-1), .int .i64 0] := World.ownsRow_lit w3 #[.int .i64 0, .int .i64 (-1), .int .i64 (-1), .int .i64 0] 1 (Nat.le_refl _) (by decide) rfl
    have HLT := Lib.hid hlit
    have r9 := BlockIs.of HK3.out 9 _ rfl
    have hq3 : q < w3.heap.size := lt_of_block HK3.out
    clear hlit
    go_wp2_with (at_builtin; refine wpList_onto _ rfl (.tmp 65) (.tmp 69) 43 rfl w3.heap.size 49 _ 4 32 Try.underlying43 infoEvent rfl (by decide) _ 1 _ rfl HLT.out 0 [] (.inl ⟨0, rfl, rfl, rfl⟩) rfl (by simp [Value.oneCell']) (by decide) (by decide) (by simp) ?_)
    intro v' w4 hown4 hg4
    have hr4 : ∀ b, (Value.slice (some ⟨w3.heap.size, 0, none⟩) 1 1).ownBlock = some b → Typed (w3.alloc (.cells #[.int .i64 0, .int .i64 (-1), .int .i64 (-1), .int .i64 0] 49)) b 49 := fun b hb => own_typed HLT.out hb
    have hk4 := typed_apart (keep_blk HK3.out (balloc w3 (.cells #[.int .i64 0, .int .i64 (-1), .int .i64 (-1), .int .i64 0] 49))) hg4 hr4 (by decide)
    have hb4 : Below w3.heap.size w3 w4 := (balloc w3 _).grown hg4 (by simp) (fun k hk => by simp [Value.ownBlock] at hk; omega)
    obtain ⟨va, vc, hvs⟩ := own_shape hown4
    subst hvs
    have r9 := BlockIs.of hk4 9 _ rfl
    have rf9 : w4.frozen? ⟨q, 9, none⟩ = false := by unfold World.frozen?; rw [hk4]; simp
    have hsg := set_grown w4 q 9 (.slice va 1 vc)
    have htq : ∀ g', some q = some g' → Typed w4 g' 45 := fun g' hg' => by injection hg' with hg'; subst hg'; exact ⟨_, hk4⟩
    have hev5 : EventsV (w4.setCell ⟨q, 9, none⟩ (.slice va 1 vc)) (.slice va 1 vc) (⟨0, -1, -1, 0⟩ :: []) := evRow (n := 1) rfl (own_apart hown4 hsg htq (by decide)) (by decide)
    have hk5 := blk_set hk4 9 (.slice va 1 vc)
    have HC5 := Lib.hid (HCZ.out.ext ((HEZ3.out.trans (Ext.below hb4)).set_new hqz 9 (.slice va 1 vc)))
    have HB5 : Hid (Below w.heap.size w (w4.setCell ⟨q, 9, none⟩ (.slice va 1 vc))) := Lib.hid ((bthen HB3.out hb4).setCell (p := ⟨q, 9, none⟩) hwq _)
    have HR5 : Hid (RowsV (w4.setCell ⟨q, 9, none⟩ (.slice va 1 vc)) (.slice (some ⟨q, 0, none⟩) 2 2) [⟨5, -1, false, 0, []⟩, ⟨6, (0), false, 0, ⟨0, -1, -1, 0⟩ :: []⟩]) := Lib.hid (by
      have hB := BlockIs.of hk5
      exact slice2 (by decide) (row_of hB _ rfl rfl rfl rfl rfl rfl) ⟨hB 5 _ rfl, hB 6 _ rfl, hB 7 _ rfl, hB 8 _ rfl, _, hB 9 _ rfl, hev5⟩)
    have HC4 := Lib.hid (HCZ.out.ext (HEZ3.out.trans (Ext.below hb4)))
    have z0 := HC4.out.c0; have z1 := HC4.out.c1; have z2 := HC4.out.c2; have z3 := HC4.out.c3; have z4 := HC4.out.c4; unfold IntAt at z0 z1
    clear hown4 hg4 hr4 hk4 hb4 hsg htq hev5 hk5 HB3 HEZ3 HK3 HLT HCZ hqz HC4
    go_wp2_with fail
    refine (rows_any plainCfg _ _ [⟨5, -1, false, 0, []⟩, ⟨6, (0), false, 0, ⟨0, -1, -1, 0⟩ :: []⟩] _ ⟨_, _, _, rfl, HC5.out.is⟩ HR5.out).mono ?_
    rw [HM2.out, if_neg (by decide)]
    rintro e w6 ⟨rfl, hb6⟩
    have HB6 := Lib.hid (bthen HB5.out hb6)
    clear hb6 HB5 HC5 HR5 z0 z1 z2 z3 z4 r9 rf9
    go_wp2_with (first | (go_at_call 11; refine (num_any _ _).mono ?_; rintro e w' ⟨rfl, hw⟩; subst w') | fail)
    go_ret
    exact ⟨rfl, HB6.out⟩
  · rw [if_neg (by decide)]
    rintro e w3 ⟨rfl, hb3⟩
    have HB3 := Lib.hid (bthen HBW.out hb3)
    have HEZ3 := Lib.hid (HEZ.out.trans (Ext.below hb3))
    have HK3 := Lib.hid (keep_blk HK.out hb3)
    clear hb3 HBW HCX HK HEZ hO HA HB
    have hlit : (w3.alloc (.cells #[.int .i64 0, .int .i64 (-1), .int .i64 (-1), .int .i64 0] 49)).ownsRow w3.heap.size 49 4 (.slice (some ⟨w3.heap.size, 0, none⟩) 1 1) 1 [.int .i64 0, .int .i64 (-1), .int .i64 (-1), .int .i64 0] := World.ownsRow_lit w3 #[.int .i64 0, .int .i64 (-1), .int .i64 (-1), .int .i64 0] 1 (Nat.le_refl _) (by decide) rfl
    have HLT := Lib.hid hlit
    have r9 := BlockIs.of HK3.out 9 _ rfl
    have hq3 : q < w3.heap.size := lt_of_block HK3.out
    clear hlit
    go_wp2_with (at_builtin; refine wpList_onto _ rfl (.tmp 65) (.tmp 69) 43 rfl w3.heap.size 49 _ 4 32 Try.underlying43 infoEvent rfl (by decide) _ 1 _ rfl HLT.out 0 [] (.inl ⟨0, rfl, rfl, rfl⟩) rfl (by simp [Value.oneCell']) (by decide) (by decide) (by simp) ?_)
    intro v' w4 hown4 hg4
    have hr4 : ∀ b, (Value.slice (some ⟨w3.heap.size, 0, none⟩) 1 1).ownBlock = some b → Typed (w3.alloc (.cells #[.int .i64 0, .int .i64 (-1), .int .i64 (-1), .int .i64 0] 49)) b 49 := fun b hb => own_typed HLT.out hb
    have hk4 := typed_apart (keep_blk HK3.out (balloc w3 (.cells #[.int .i64 0, .int .i64 (-1), .int .i64 (-1), .int .i64 0] 49))) hg4 hr4 (by decide)
    have hb4 : Below w3.heap.size w3 w4 := (balloc w3 _).grown hg4 (by simp) (fun k hk => by simp [Value.ownBlock] at hk; omega)
    obtain ⟨va, vc, hvs⟩ := own_shape hown4
    subst hvs
    have r9 := BlockIs.of hk4 9 _ rfl
    have rf9 : w4.frozen? ⟨q, 9, none⟩ = false := by unfold World.frozen?; rw [hk4]; simp
    have hsg := set_grown w4 q 9 (.slice va 1 vc)
    have htq : ∀ g', some q = some g' → Typed w4 g' 45 := fun g' hg' => by injection hg' with hg'; subst hg'; exact ⟨_, hk4⟩
    have hev5 : EventsV (w4.setCell ⟨q, 9, none⟩ (.slice va 1 vc)) (.slice va 1 vc) (⟨0, -1, -1, 0⟩ :: []) := evRow (n := 1) rfl (own_apart hown4 hsg htq (by decide)) (by decide)
    have hk5 := blk_set hk4 9 (.slice va 1 vc)
    have HC5 := Lib.hid (HCZ.out.ext ((HEZ3.out.trans (Ext.below hb4)).set_new hqz 9 (.slice va 1 vc)))
    have HB5 : Hid (Below w.heap.size w (w4.setCell ⟨q, 9, none⟩ (.slice va 1 vc))) := Lib.hid ((bthen HB3.out hb4).setCell (p := ⟨q, 9, none⟩) hwq _)
    have HR5 : Hid (RowsV (w4.setCell ⟨q, 9, none⟩ (.slice va 1 vc)) (.slice (some ⟨q, 0, none⟩) 2 2) [⟨5, -1, false, 0, []⟩, ⟨6, (0), false, 1, ⟨0, -1, -1, 0⟩ :: []⟩]) := Lib.hid (by
      have hB := BlockIs.of hk5
      exact slice2 (by decide) (row_of hB _ rfl rfl rfl rfl rfl rfl) ⟨hB 5 _ rfl, hB 6 _ rfl, hB 7 _ rfl, hB 8 _ rfl, _, hB 9 _ rfl, hev5⟩)
    have HC4 := Lib.hid (HCZ.out.ext (HEZ3.out.trans (Ext.below hb4)))
    have z0 := HC4.out.c0; have z1 := HC4.out.c1; have z2 := HC4.out.c2; have z3 := HC4.out.c3; have z4 := HC4.out.c4; unfold IntAt at z0 z1
    clear hown4 hg4 hr4 hk4 hb4 hsg htq hev5 hk5 HB3 HEZ3 HK3 HLT HCZ hqz HC4
    go_wp2_with fail
    refine (rows_any plainCfg _ _ [⟨5, -1, false, 0, []⟩, ⟨6, (0), false, 1, ⟨0, -1, -1, 0⟩ :: []⟩] _ ⟨_, _, _, rfl, HC5.out.is⟩ HR5.out).mono ?_
    rw [HM2.out, if_neg (by decide)]
    rintro e w6 ⟨rfl, hb6⟩
    have HB6 := Lib.hid (bthen HB5.out hb6)
    clear hb6 HB5 HC5 HR5 z0 z1 z2 z3 z4 r9 rf9
    go_wp2_with (first | (go_at_call 11; refine (num_any _ _).mono ?_; rintro e w' ⟨rfl, hw⟩; subst w') | fail)
    go_ret
    exact ⟨rfl, HB6.out⟩
  · rw [if_neg (by decide)]
    rintro e w3 ⟨rfl, hb3⟩
    have HB3 := Lib.hid (bthen HBW.out hb3)
    have HEZ3 := Lib.hid (HEZ.out.trans (Ext.below hb3))
    have HK3 := Lib.hid (keep_blk HK.out hb3)
    clear hb3 HBW HCX HK HEZ hO HA HB
    have hlit : (w3.alloc (.cells #[.int .i64 0, .int .i64 (-1), .int .i64 (-1), .int .i64 0] 49)).ownsRow w3.heap.size 49 4 (.slice (some ⟨w3.heap.size, 0, none⟩) 1 1) 1 [.int .i64 0, .int .i64 (-1), .int .i64 (-1), .int .i64 0] := World.ownsRow_lit w3 #[.int .i64 0, .int .i64 (-1), .int .i64 (-1), .int .i64 0] 1 (Nat.le_refl _) (by decide) rfl
    have HLT := Lib.hid hlit
    have r9 := BlockIs.of HK3.out 9 _ rfl
    have hq3 : q < w3.heap.size := lt_of_block HK3.out
    clear hlit
    go_wp2_with (at_builtin; refine wpList_onto _ rfl (.tmp 65) (.tmp 69) 43 rfl w3.heap.size 49 _ 4 32 Try.underlying43 infoEvent rfl (by decide) _ 1 _ rfl HLT.out 0 [] (.inl ⟨0, rfl, rfl, rfl⟩) rfl (by simp [Value.oneCell']) (by decide) (by decide) (by simp) ?_)
    intro v' w4 hown4 hg4
    have hr4 : ∀ b, (Value.slice (some ⟨w3.heap.size, 0, none⟩) 1 1).ownBlock = some b → Typed (w3.alloc (.cells #[.int .i64 0, .int .i64 (-1), .int .i64 (-1), .int .i64 0] 49)) b 49 := fun b hb => own_typed HLT.out hb
    have hk4 := typed_apart (keep_blk HK3.out (balloc w3 (.cells #[.int .i64 0, .int .i64 (-1), .int .i64 (-1), .int .i64 0] 49))) hg4 hr4 (by decide)
    have hb4 : Below w3.heap.size w3 w4 := (balloc w3 _).grown hg4 (by simp) (fun k hk => by simp [Value.ownBlock] at hk; omega)
    obtain ⟨va, vc, hvs⟩ := own_shape hown4
    subst hvs
    have r9 := BlockIs.of hk4 9 _ rfl
    have rf9 : w4.frozen? ⟨q, 9, none⟩ = false := by unfold World.frozen?; rw [hk4]; simp
    have hsg := set_grown w4 q 9 (.slice va 1 vc)
    have htq : ∀ g', some q = some g' → Typed w4 g' 45 := fun g' hg' => by injection hg' with hg'; subst hg'; exact ⟨_, hk4⟩
    have hev5 : EventsV (w4.setCell ⟨q, 9, none⟩ (.slice va 1 vc)) (.slice va 1 vc) (⟨0, -1, -1, 0⟩ :: []) := evRow (n := 1) rfl (own_apart hown4 hsg htq (by decide)) (by decide)
    have hk5 := blk_set hk4 9 (.slice va 1 vc)
    have HC5 := Lib.hid (HCZ.out.ext ((HEZ3.out.trans (Ext.below hb4)).set_new hqz 9 (.slice va 1 vc)))
    have HB5 : Hid (Below w.heap.size w (w4.setCell ⟨q, 9, none⟩ (.slice va 1 vc))) := Lib.hid ((bthen HB3.out hb4).setCell (p := ⟨q, 9, none⟩) hwq _)
    have HR5 : Hid (RowsV (w4.setCell ⟨q, 9, none⟩ (.slice va 1 vc)) (.slice (some ⟨q, 0, none⟩) 2 2) [⟨5, -1, false, 1, []⟩, ⟨6, (0), false, 0, ⟨0, -1, -1, 0⟩ :: []⟩]) := Lib.hid (by
      have hB := BlockIs.of hk5
      exact slice2 (by decide) (row_of hB _ rfl rfl rfl rfl rfl rfl) ⟨hB 5 _ rfl, hB 6 _ rfl, hB 7 _ rfl, hB 8 _ rfl, _, hB 9 _ rfl, hev5⟩)
    have HC4 := Lib.hid (HCZ.out.ext (HEZ3.out.trans (Ext.below hb4)))
    have z0 := HC4.out.c0; have z1 := HC4.out.c1; have z2 := HC4.out.c2; have z3 := HC4.out.c3; have z4 := HC4.out.c4; unfold IntAt at z0 z1
    clear hown4 hg4 hr4 hk4 hb4 hsg htq hev5 hk5 HB3 HEZ3 HK3 HLT HCZ hqz HC4
    go_wp2_with fail
    refine (rows_any plainCfg _ _ [⟨5, -1, false, 1, []⟩, ⟨6, (0), false, 0, ⟨0, -1, -1, 0⟩ :: []⟩] _ ⟨_, _, _, rfl, HC5.out.is⟩ HR5.out).mono ?_
    rw [HM2.out, if_neg (by decide)]
    rintro e w6 ⟨rfl, hb6⟩
    have HB6 := Lib.hid (bthen HB5.out hb6)
    clear hb6 HB5 HC5 HR5 z0 z1 z2 z3 z4 r9 rf9
    go_wp2_with (first | (go_at_call 11; refine (num_any _ _).mono ?_; rintro e w' ⟨rfl, hw⟩; subst w') | fail)
    go_ret
    exact ⟨rfl, HB6.out⟩
  · rw [if_neg (by decide)]
    rintro e w3 ⟨rfl, hb3⟩
    have HB3 := Lib.hid (bthen HBW.out hb3)
    have HEZ3 := Lib.hid (HEZ.out.trans (Ext.below hb3))
    have HK3 := Lib.hid (keep_blk HK.out hb3)
    clear hb3 HBW HCX HK HEZ hO HA HB
    have hlit : (w3.alloc (.cells #[.int .i64 0, .int .i64 (-1), .int .i64 (-1), .int .i64 0] 49)).ownsRow w3.heap.size 49 4 (.slice (some ⟨w3.heap.size, 0, none⟩) 1 1) 1 [.int .i64 0, .int .i64 (-1), .int .i64 (-1), .int .i64 0] := World.ownsRow_lit w3 #[.int .i64 0, .int .i64 (-1), .int .i64 (-1), .int .i64 0] 1 (Nat.le_refl _) (by decide) rfl
    have HLT := Lib.hid hlit
    have r9 := BlockIs.of HK3.out 9 _ rfl
    have hq3 : q < w3.heap.size := lt_of_block HK3.out
    clear hlit
    go_wp2_with (at_builtin; refine wpList_onto _ rfl (.tmp 65) (.tmp 69) 43 rfl w3.heap.size 49 _ 4 32 Try.underlying43 infoEvent rfl (by decide) _ 1 _ rfl HLT.out 0 [] (.inl ⟨0, rfl, rfl, rfl⟩) rfl (by simp [Value.oneCell']) (by decide) (by decide) (by simp) ?_)
    intro v' w4 hown4 hg4
    have hr4 : ∀ b, (Value.slice (some ⟨w3.heap.size, 0, none⟩) 1 1).ownBlock = some b → Typed (w3.alloc (.cells #[.int .i64 0, .int .i64 (-1), .int .i64 (-1), .int .i64 0] 49)) b 49 := fun b hb => own_typed HLT.out hb
    have hk4 := typed_apart (keep_blk HK3.out (balloc w3 (.cells #[.int .i64 0, .int .i64 (-1), .int .i64 (-1), .int .i64 0] 49))) hg4 hr4 (by decide)
    have hb4 : Below w3.heap.size w3 w4 := (balloc w3 _).grown hg4 (by simp) (fun k hk => by simp [Value.ownBlock] at hk; omega)
    obtain ⟨va, vc, hvs⟩ := own_shape hown4
    subst hvs
    have r9 := BlockIs.of hk4 9 _ rfl
    have rf9 : w4.frozen? ⟨q, 9, none⟩ = false := by unfold World.frozen?; rw [hk4]; simp
    have hsg := set_grown w4 q 9 (.slice va 1 vc)
    have htq : ∀ g', some q = some g' → Typed w4 g' 45 := fun g' hg' => by injection hg' with hg'; subst hg'; exact ⟨_, hk4⟩
    have hev5 : EventsV (w4.setCell ⟨q, 9, none⟩ (.slice va 1 vc)) (.slice va 1 vc) (⟨0, -1, -1, 0⟩ :: []) := evRow (n := 1) rfl (own_apart hown4 hsg htq (by decide)) (by decide)
    have hk5 := blk_set hk4 9 (.slice va 1 vc)
    have HC5 := Lib.hid (HCZ.out.ext ((HEZ3.out.trans (Ext.below hb4)).set_new hqz 9 (.slice va 1 vc)))
    have HB5 : Hid (Below w.heap.size w (w4.setCell ⟨q, 9, none⟩ (.slice va 1 vc))) := Lib.hid ((bthen HB3.out hb4).setCell (p := ⟨q, 9, none⟩) hwq _)
    have HR5 : Hid (RowsV (w4.setCell ⟨q, 9, none⟩ (.slice va 1 vc)) (.slice (some ⟨q, 0, none⟩) 2 2) [⟨5, -1, false, 1, []⟩, ⟨6, (0), false, 1, ⟨0, -1, -1, 0⟩ :: []⟩]) := Lib.hid (by
      have hB := BlockIs.of hk5
      exact slice2 (by decide) (row_of hB _ rfl rfl rfl rfl rfl rfl) ⟨hB 5 _ rfl, hB 6 _ rfl, hB 7 _ rfl, hB 8 _ rfl, _, hB 9 _ rfl, hev5⟩)
    have HC4 := Lib.hid (HCZ.out.ext (HEZ3.out.trans (Ext.below hb4)))
    have z0 := HC4.out.c0; have z1 := HC4.out.c1; have z2 := HC4.out.c2; have z3 := HC4.out.c3; have z4 := HC4.out.c4; unfold IntAt at z0 z1
    clear hown4 hg4 hr4 hk4 hb4 hsg htq hev5 hk5 HB3 HEZ3 HK3 HLT HCZ hqz HC4
    go_wp2_with fail
    refine (rows_any plainCfg _ _ [⟨5, -1, false, 1, []⟩, ⟨6, (0), false, 1, ⟨0, -1, -1, 0⟩ :: []⟩] _ ⟨_, _, _, rfl, HC5.out.is⟩ HR5.out).mono ?_
    rw [HM2.out, if_neg (by decide)]
    rintro e w6 ⟨rfl, hb6⟩
    have HB6 := Lib.hid (bthen HB5.out hb6)
    clear hb6 HB5 HC5 HR5 z0 z1 z2 z3 z4 r9 rf9
    go_wp2_with (first | (go_at_call 11; refine (num_any _ _).mono ?_; rintro e w' ⟨rfl, hw⟩; subst w') | fail)
    go_ret
    exact ⟨rfl, HB6.out⟩
  · rw [if_pos (by decide)]
    rintro e w3 ⟨rfl, hb3⟩
    have HB3 := Lib.hid (bthen HBW.out hb3)
    have HEZ3 := Lib.hid (HEZ.out.trans (Ext.below hb3))
    have HK3 := Lib.hid (keep_blk HK.out hb3)
    clear hb3 HBW HCX HK HEZ hO HA HB
    have hlit : (w3.alloc (.cells #[.int .i64 0, .int .i64 (-1), .int .i64 (-1), .int .i64 0] 49)).ownsRow w3.heap.size 49 4 (.slice (some ⟨w3.heap.size, 0, none⟩) 1 1) 1 [.int .i64 0, .int .i64 (-1), .int .i64 (-1), .int .i64 0] := World.ownsRow_lit w3 #[.int .i64 0, .int .i64 (-1), .int .i64 (-1), .int .i64 0] 1 (Nat.le_refl _) (by decide) rfl
    have HLT := Lib.hid hlit
    have r9 := BlockIs.of HK3.out 9 _ rfl
    have hq3 : q < w3.heap.size := lt_of_block HK3.out
    clear hlit
    go_wp2_with (at_builtin; refine wpList_onto _ rfl (.tmp 65) (.tmp 69) 43 rfl w3.heap.size 49 _ 4 32 Try.underlying43 infoEvent rfl (by decide) _ 1 _ rfl HLT.out 0 [] (.inl ⟨0, rfl, rfl, rfl⟩) rfl (by simp [Value.oneCell']) (by decide) (by decide) (by simp) ?_)
    intro v' w4 hown4 hg4
    have hr4 : ∀ b, (Value.slice (some ⟨w3.heap.size, 0, none⟩) 1 1).ownBlock = some b → Typed (w3.alloc (.cells #[.int .i64 0, .int .i64 (-1), .int .i64 (-1), .int .i64 0] 49)) b 49 := fun b hb => own_typed HLT.out hb
    have hk4 := typed_apart (keep_blk HK3.out (balloc w3 (.cells #[.int .i64 0, .int .i64 (-1), .int .i64 (-1), .int .i64 0] 49))) hg4 hr4 (by decide)
    have hb4 : Below w3.heap.size w3 w4 := (balloc w3 _).grown hg4 (by simp) (fun k hk => by simp [Value.ownBlock] at hk; omega)
    obtain ⟨va, vc, hvs⟩ := own_shape hown4
    subst hvs
    have r9 := BlockIs.of hk4 9 _ rfl
    have rf9 : w4.frozen? ⟨q, 9, none⟩ = false := by unfold World.frozen?; rw [hk4]; simp
    have hsg := set_grown w4 q 9 (.slice va 1 vc)
    have htq : ∀ g', some q = some g' → Typed w4 g' 45 := fun g' hg' => by injection hg' with hg'; subst hg'; exact ⟨_, hk4⟩
    have hev5 : EventsV (w4.setCell ⟨q, 9, none⟩ (.slice va 1 vc)) (.slice va 1 vc) (⟨0, -1, -1, 0⟩ :: []) := evRow (n := 1) rfl (own_apart hown4 hsg htq (by decide)) (by decide)
    have hk5 := blk_set hk4 9 (.slice va 1 vc)
    have HC5 := Lib.hid (HCZ.out.ext ((HEZ3.out.trans (Ext.below hb4)).set_new hqz 9 (.slice va 1 vc)))
    have HB5 : Hid (Below w.heap.size w (w4.setCell ⟨q, 9, none⟩ (.slice va 1 vc))) := Lib.hid ((bthen HB3.out hb4).setCell (p := ⟨q, 9, none⟩) hwq _)
    have HR5 : Hid (RowsV (w4.setCell ⟨q, 9, none⟩ (.slice va 1 vc)) (.slice (some ⟨q, 0, none⟩) 2 2) [⟨5, -1, false, 0, []⟩, ⟨6, (1), false, 0, ⟨0, -1, -1, 0⟩ :: []⟩]) := Lib.hid (by
      have hB := BlockIs.of hk5
      exact slice2 (by decide) (row_of hB _ rfl rfl rfl rfl rfl rfl) ⟨hB 5 _ rfl, hB 6 _ rfl, hB 7 _ rfl, hB 8 _ rfl, _, hB 9 _ rfl, hev5⟩)
    have HC4 := Lib.hid (HCZ.out.ext (HEZ3.out.trans (Ext.below hb4)))
    have z0 := HC4.out.c0; have z1 := HC4.out.c1; have z2 := HC4.out.c2; have z3 := HC4.out.c3; have z4 := HC4.out.c4; unfold IntAt at z0 z1
    clear hown4 hg4 hr4 hk4 hb4 hsg htq hev5 hk5 HB3 HEZ3 HK3 HLT HCZ hqz HC4
    go_wp2_with fail
    refine (rows_any plainCfg _ _ [⟨5, -1, false, 0, []⟩, ⟨6, (1), false, 0, ⟨0, -1, -1, 0⟩ :: []⟩] _ ⟨_, _, _, rfl, HC5.out.is⟩ HR5.out).mono ?_
    rw [HM2.out, if_pos (by decide)]
    rintro e w6 ⟨rfl, hb6⟩
    have HB6 := Lib.hid (bthen HB5.out hb6)
    clear hb6 HB5 HC5 HR5 z0 z1 z2 z3 z4 r9 rf9
    go_wp2_with (first | (go_at_call 11; refine (num_any _ _).mono ?_; rintro e w' ⟨rfl, hw⟩; subst w') | fail)
    go_ret
    exact ⟨rfl, HB6.out⟩
  · rw [if_pos (by decide)]
    rintro e w3 ⟨rfl, hb3⟩
    have HB3 := Lib.hid (bthen HBW.out hb3)
    have HEZ3 := Lib.hid (HEZ.out.trans (Ext.below hb3))
    have HK3 := Lib.hid (keep_blk HK.out hb3)
    clear hb3 HBW HCX HK HEZ hO HA HB
    have hlit : (w3.alloc (.cells #[.int .i64 0, .int .i64 (-1), .int .i64 (-1), .int .i64 0] 49)).ownsRow w3.heap.size 49 4 (.slice (some ⟨w3.heap.size, 0, none⟩) 1 1) 1 [.int .i64 0, .int .i64 (-1), .int .i64 (-1), .int .i64 0] := World.ownsRow_lit w3 #[.int .i64 0, .int .i64 (-1), .int .i64 (-1), .int .i64 0] 1 (Nat.le_refl _) (by decide) rfl
    have HLT := Lib.hid hlit
    have r9 := BlockIs.of HK3.out 9 _ rfl
    have hq3 : q < w3.heap.size := lt_of_block HK3.out
    clear hlit
    go_wp2_with (at_builtin; refine wpList_onto _ rfl (.tmp 65) (.tmp 69) 43 rfl w3.heap.size 49 _ 4 32 Try.underlying43 infoEvent rfl (by decide) _ 1 _ rfl HLT.out 0 [] (.inl ⟨0, rfl, rfl, rfl⟩) rfl (by simp [Value.oneCell']) (by decide) (by decide) (by simp) ?_)
    intro v' w4 hown4 hg4
    have hr4 : ∀ b, (Value.slice (some ⟨w3.heap.size, 0, none⟩) 1 1).ownBlock = some b → Typed (w3.alloc (.cells #[.int .i64 0, .int .i64 (-1), .int .i64 (-1), .int .i64 0] 49)) b 49 := fun b hb => own_typed HLT.out hb
    have hk4 := typed_apart (keep_blk HK3.out (balloc w3 (.cells #[.int .i64 0, .int .i64 (-1), .int .i64 (-1), .int .i64 0] 49))) hg4 hr4 (by decide)
    have hb4 : Below w3.heap.size w3 w4 := (balloc w3 _).grown hg4 (by simp) (fun k hk => by simp [Value.ownBlock] at hk; omega)
    obtain ⟨va, vc, hvs⟩ := own_shape hown4
    subst hvs
    have r9 := BlockIs.of hk4 9 _ rfl
    have rf9 : w4.frozen? ⟨q, 9, none⟩ = false := by unfold World.frozen?; rw [hk4]; simp
    have hsg := set_grown w4 q 9 (.slice va 1 vc)
    have htq : ∀ g', some q = some g' → Typed w4 g' 45 := fun g' hg' => by injection hg' with hg'; subst hg'; exact ⟨_, hk4⟩
    have hev5 : EventsV (w4.setCell ⟨q, 9, none⟩ (.slice va 1 vc)) (.slice va 1 vc) (⟨0, -1, -1, 0⟩ :: []) := evRow (n := 1) rfl (own_apart hown4 hsg htq (by decide)) (by decide)
    have hk5 := blk_set hk4 9 (.slice va 1 vc)
    have HC5 := Lib.hid (HCZ.out.ext ((HEZ3.out.trans (Ext.below hb4)).set_new hqz 9 (.slice va 1 vc)))
    have HB5 : Hid (Below w.heap.size w (w4.setCell ⟨q, 9, none⟩ (.slice va 1 vc))) := Lib.hid ((bthen HB3.out hb4).setCell (p := ⟨q, 9, none⟩) hwq _)
    have HR5 : Hid (RowsV (w4.setCell ⟨q, 9, none⟩ (.slice va 1 vc)) (.slice (some ⟨q, 0, none⟩) 2 2) [⟨5, -1, false, 0, []⟩, ⟨6, (1), false, 1, ⟨0, -1, -1, 0⟩ :: []⟩]) := Lib.hid (by
      have hB := BlockIs.of hk5
      exact slice2 (by decide) (row_of hB _ rfl rfl rfl rfl rfl rfl) ⟨hB 5 _ rfl, hB 6 _ rfl, hB 7 _ rfl, hB 8 _ rfl, _, hB 9 _ rfl, hev5⟩)
    have HC4 := Lib.hid (HCZ.out.ext (HEZ3.out.trans (Ext.below hb4)))
    have z0 := HC4.out.c0; have z1 := HC4.out.c1; have z2 := HC4.out.c2; have z3 := HC4.out.c3; have z4 := HC4.out.c4; unfold IntAt at z0 z1
    clear hown4 hg4 hr4 hk4 hb4 hsg htq hev5 hk5 HB3 HEZ3 HK3 HLT HCZ hqz HC4
    go_wp2_with fail
    refine (rows_any plainCfg _ _ [⟨5, -1, false, 0, []⟩, ⟨6, (1), false, 1, ⟨0, -1, -1, 0⟩ :: []⟩] _ ⟨_, _, _, rfl, HC5.out.is⟩ HR5.out).mono ?_
    rw [HM2.out, if_pos (by decide)]
    rintro e w6 ⟨rfl, hb6⟩
    have HB6 := Lib.hid (bthen HB5.out hb6)
    clear hb6 HB5 HC5 HR5 z0 z1 z2 z3 z4 r9 rf9
    go_wp2_with (first | (go_at_call 11; refine (num_any _ _).mono ?_; rintro e w' ⟨rfl, hw⟩; subst w') | fail)
    go_ret
    exact ⟨rfl, HB6.out⟩
  · rw [if_neg (by decide)]
    rintro e w3 ⟨rfl, hb3⟩
    have HB3 := Lib.hid (bthen HBW.out hb3)
    have HEZ3 := Lib.hid (HEZ.out.trans (Ext.below hb3))
    have HK3 := Lib.hid (keep_blk HK.out hb3)
    clear hb3 HBW HCX HK HEZ hO HA HB
    have hlit : (w3.alloc (.cells #[.int .i64 0, .int .i64 (-1), .int .i64 (-1), .int .i64 0] 49)).ownsRow w3.heap.size 49 4 (.slice (some ⟨w3.heap.size, 0, none⟩) 1 1) 1 [.int .i64 0, .int .i64 (-1), .int .i64 (-1), .int .i64 0] := World.ownsRow_lit w3 #[.int .i64 0, .int .i64 (-1), .int .i64 (-1), .int .i64 0] 1 (Nat.le_refl _) (by decide) rfl
    have HLT := Lib.hid hlit
    have r9 := BlockIs.of HK3.out 9 _ rfl
    have hq3 : q < w3.heap.size := lt_of_block HK3.out
    clear hlit
    go_wp2_with (at_builtin; refine wpList_onto _ rfl (.tmp 65) (.tmp 69) 43 rfl w3.heap.size 49 _ 4 32 Try.underlying43 infoEvent rfl (by decide) _ 1 _ rfl HLT.out 0 [] (.inl ⟨0, rfl, rfl, rfl⟩) rfl (by simp [Value.oneCell']) (by decide) (by decide) (by simp) ?_)
    intro v' w4 hown4 hg4
    have hr4 : ∀ b, (Value.slice (some ⟨w3.heap.size, 0, none⟩) 1 1).ownBlock = some b → Typed (w3.alloc (.cells #[.int .i64 0, .int .i64 (-1), .int .i64 (-1), .int .i64 0] 49)) b 49 := fun b hb => own_typed HLT.out hb
    have hk4 := typed_apart (keep_blk HK3.out (balloc w3 (.cells #[.int .i64 0, .int .i64 (-1), .int .i64 (-1), .int .i64 0] 49))) hg4 hr4 (by decide)
    have hb4 : Below w3.heap.size w3 w4 := (balloc w3 _).grown hg4 (by simp) (fun k hk => by simp [Value.ownBlock] at hk; omega)
    obtain ⟨va, vc, hvs⟩ := own_shape hown4
    subst hvs
    have r9 := BlockIs.of hk4 9 _ rfl
    have rf9 : w4.frozen? ⟨q, 9, none⟩ = false := by unfold World.frozen?; rw [hk4]; simp
    have hsg := set_grown w4 q 9 (.slice va 1 vc)
    have htq : ∀ g', some q = some g' → Typed w4 g' 45 := fun g' hg' => by injection hg' with hg'; subst hg'; exact ⟨_, hk4⟩
    have hev5 : EventsV (w4.setCell ⟨q, 9, none⟩ (.slice va 1 vc)) (.slice va 1 vc) (⟨0, -1, -1, 0⟩ :: []) := evRow (n := 1) rfl (own_apart hown4 hsg htq (by decide)) (by decide)
    have hk5 := blk_set hk4 9 (.slice va 1 vc)
    have HC5 := Lib.hid (HCZ.out.ext ((HEZ3.out.trans (Ext.below hb4)).set_new hqz 9 (.slice va 1 vc)))
    have HB5 : Hid (Below w.heap.size w (w4.setCell ⟨q, 9, none⟩ (.slice va 1 vc))) := Lib.hid ((bthen HB3.out hb4).setCell (p := ⟨q, 9, none⟩) hwq _)
    have HR5 : Hid (RowsV (w4.setCell ⟨q, 9, none⟩ (.slice va 1 vc)) (.slice (some ⟨q, 0, none⟩) 2 2) [⟨5, -1, false, 1, []⟩, ⟨6, (1), false, 0, ⟨0, -1, -1, 0⟩ :: []⟩]) := Lib.hid (by
      have hB := BlockIs.of hk5
      exact slice2 (by decide) (row_of hB _ rfl rfl rfl rfl rfl rfl) ⟨hB 5 _ rfl, hB 6 _ rfl, hB 7 _ rfl, hB 8 _ rfl, _, hB 9 _ rfl, hev5⟩)
    have HC4 := Lib.hid (HCZ.out.ext (HEZ3.out.trans (Ext.below hb4)))
    have z0 := HC4.out.c0; have z1 := HC4.out.c1; have z2 := HC4.out.c2; have z3 := HC4.out.c3; have z4 := HC4.out.c4; unfold IntAt at z0 z1
    clear hown4 hg4 hr4 hk4 hb4 hsg htq hev5 hk5 HB3 HEZ3 HK3 HLT HCZ hqz HC4
    go_wp2_with fail
    refine (rows_any plainCfg _ _ [⟨5, -1, false, 1, []⟩, ⟨6, (1), false, 0, ⟨0, -1, -1, 0⟩ :: []⟩] _ ⟨_, _, _, rfl, HC5.out.is⟩ HR5.out).mono ?_
    rw [HM2.out, if_pos (by decide)]
    rintro e w6 ⟨rfl, hb6⟩
    have HB6 := Lib.hid (bthen HB5.out hb6)
    clear hb6 HB5 HC5 HR5 z0 z1 z2 z3 z4 r9 rf9
    go_wp2_with (first | (go_at_call 11; refine (num_any _ _).mono ?_; rintro e w' ⟨rfl, hw⟩; subst w') | fail)
    go_ret
    exact ⟨rfl, HB6.out⟩
  · rw [if_neg (by decide)]
    rintro e w3 ⟨rfl, hb3⟩
    have HB3 := Lib.hid (bthen HBW.out hb3)
    have HEZ3 := Lib.hid (HEZ.out.trans (Ext.below hb3))
    have HK3 := Lib.hid (keep_blk HK.out hb3)
    clear hb3 HBW HCX HK HEZ hO HA HB
    have hlit : (w3.alloc (.cells #[.int .i64 0, .int .i64 (-1), .int .i64 (-1), .int .i64 0] 49)).ownsRow w3.heap.size 49 4 (.slice (some ⟨w3.heap.size, 0, none⟩) 1 1) 1 [.int .i64 0, .int .i64 (-1), .int .i64 (-1), .int .i64 0] := World.ownsRow_lit w3 #[.int .i64 0, .int .i64 (-1), .int .i64 (-1), .int .i64 0] 1 (Nat.le_refl _) (by decide) rfl
    have HLT := Lib.hid hlit
    have r9 := BlockIs.of HK3.out 9 _ rfl
    have hq3 : q < w3.heap.size := lt_of_block HK3.out
    clear hlit
    go_wp2_with (at_builtin; refine wpList_onto _ rfl (.tmp 65) (.tmp 69) 43 rfl w3.heap.size 49 _ 4 32 Try.underlying43 infoEvent rfl (by decide) _ 1 _ rfl HLT.out 0 [] (.inl ⟨0, rfl, rfl, rfl⟩) rfl (by simp [Value.oneCell']) (by decide) (by decide) (by simp) ?_)
    intro v' w4 hown4 hg4
    have hr4 : ∀ b, (Value.slice (some ⟨w3.heap.size, 0, none⟩) 1 1).ownBlock = some b → Typed (w3.alloc (.cells #[.int .i64 0, .int .i64 (-1), .int .i64 (-1), .int .i64 0] 49)) b 49 := fun b hb => own_typed HLT.out hb
    have hk4 := typed_apart (keep_blk HK3.out (balloc w3 (.cells #[.int .i64 0, .int .i64 (-1), .int .i64 (-1), .int .i64 0] 49))) hg4 hr4 (by decide)
    have hb4 : Below w3.heap.size w3 w4 := (balloc w3 _).grown hg4 (by simp) (fun k hk => by simp [Value.ownBlock] at hk; omega)
    obtain ⟨va, vc, hvs⟩ := own_shape hown4
    subst hvs
    have r9 := BlockIs.of hk4 9 _ rfl
    have rf9 : w4.frozen? ⟨q, 9, none⟩ = false := by unfold World.frozen?; rw [hk4]; simp
    have hsg := set_grown w4 q 9 (.slice va 1 vc)
    have htq : ∀ g', some q = some g' → Typed w4 g' 45 := fun g' hg' => by injection hg' with hg'; subst hg'; exact ⟨_, hk4⟩
    have hev5 : EventsV (w4.setCell ⟨q, 9, none⟩ (.slice va 1 vc)) (.slice va 1 vc) (⟨0, -1, -1, 0⟩ :: []) := evRow (n := 1) rfl (own_apart hown4 hsg htq (by decide)) (by decide)
    have hk5 := blk_set hk4 9 (.slice va 1 vc)
    have HC5 := Lib.hid (HCZ.out.ext ((HEZ3.out.trans (Ext.below hb4)).set_new hqz 9 (.slice va 1 vc)))
    have HB5 : Hid (Below w.heap.size w (w4.setCell ⟨q, 9, none⟩ (.slice va 1 vc))) := Lib.hid ((bthen HB3.out hb4).setCell (p := ⟨q, 9, none⟩) hwq _)
    have HR5 : Hid (RowsV (w4.setCell ⟨q, 9, none⟩ (.slice va 1 vc)) (.slice (some ⟨q, 0, none⟩) 2 2) [⟨5, -1, false, 1, []⟩, ⟨6, (1), false, 1, ⟨0, -1, -1, 0⟩ :: []⟩]) := Lib.hid (by
      have hB := BlockIs.of hk5
      exact slice2 (by decide) (row_of hB _ rfl rfl rfl rfl rfl rfl) ⟨hB 5 _ rfl, hB 6 _ rfl, hB 7 _ rfl, hB 8 _ rfl, _, hB 9 _ rfl, hev5⟩)
    have HC4 := Lib.hid (HCZ.out.ext (HEZ3.out.trans (Ext.below hb4)))
    have z0 := HC4.out.c0; have z1 := HC4.out.c1; have z2 := HC4.out.c2; have z3 := HC4.out.c3; have z4 := HC4.out.c4; unfold IntAt at z0 z1
    clear hown4 hg4 hr4 hk4 hb4 hsg htq hev5 hk5 HB3 HEZ3 HK3 HLT HCZ hqz HC4
    go_wp2_with fail
    refine (rows_any plainCfg _ _ [⟨5, -1, false, 1, []⟩, ⟨6, (1), false, 1, ⟨0, -1, -1, 0⟩ :: []⟩] _ ⟨_, _, _, rfl, HC5.out.is⟩ HR5.out).mono ?_
    rw [HM2.out, if_pos (by decide)]
    rintro e w6 ⟨rfl, hb6⟩
    have HB6 := Lib.hid (bthen HB5.out hb6)
    clear hb6 HB5 HC5 HR5 z0 z1 z2 z3 z4 r9 rf9
    go_wp2_with (first | (go_at_call 11; refine (num_any _ _).mono ?_; rintro e w' ⟨rfl, hw⟩; subst w') | fail)
    go_ret
    exact ⟨rfl, HB6.out⟩
theorem auditModes_any (ow was : Int) (over : Bool) (now : Int) (w : World) :
    Calls Try.prog 5 #[.int .i64 ow, .int .i64 was, .bool over, .int .i64 now] w fun e w' => e = .returned (.bool true) ∧ Below w.heap.size w w' := by
  cases over
  · exact auditModes_false ow was now w
  · exact auditModes_true ow was now w
end Go.Proofs.Ytfhebonhcolbdaa
