/- view.kept, glance. -/
import Derived.Test.YtjhhncahlijohaaView1
set_option linter.unusedVariables false
set_option linter.unusedSimpArgs false
namespace Go.Proofs.Ytjhhncahlijohaa
open Go.RowKit

def keptTo (p : Event → Bool) (xs : List Event) (k : Nat) : List Event := (xs.take k).filter p
theorem keptTo_le (p : Event → Bool) (xs : List Event) (k : Nat) : (keptTo p xs k).length ≤ k := by
  have h1 := List.length_filter_le p (xs.take k)
  have h2 := List.length_take_le k xs
  unfold keptTo
  omega
theorem keptTo_yes (p : Event → Bool) (xs : List Event) (k : Nat) (h : k < xs.length) (hp : p xs[k] = true) : keptTo p xs (k + 1) = keptTo p xs k ++ [xs[k]] := by
  unfold keptTo
  rw [filter_snoc p xs k h, if_pos hp]
theorem keptTo_no (p : Event → Bool) (xs : List Event) (k : Nat) (h : k < xs.length) (hp : p xs[k] = false) : keptTo p xs (k + 1) = keptTo p xs k := by
  unfold keptTo
  rw [filter_snoc p xs k h, if_neg (by rw [hp]; decide), List.append_nil]
theorem keptTo_all (p : Event → Bool) (xs : List Event) : keptTo p xs xs.length = xs.filter p := by unfold keptTo; rw [List.take_length]
def KeptRow (W : World) (B : Nat) (v : Value) (es : List Event) : Prop := W.ownsRow B 39 4 v es.length (es.flatMap evCells)
theorem KeptRow.snoc {W : World} {B : Nat} {v : Value} {es : List Event} {x : Event} {n : Nat} (hn : n = es.length) (h : W.ownsRow B 39 4 v (n + 1) (es.flatMap evCells ++ evCells x)) : KeptRow W B v (es ++ [x]) := by
  subst hn
  unfold KeptRow
  rw [List.length_append, List.flatMap_append]
  simpa using h
theorem KeptRow.events {W : World} {B : Nat} {v : Value} {es : List Event} (h : KeptRow W B v es) (hB : es.length * 32 ≤ 140737488351232) : EventsV W v es := flatEvent.slice h hB
set_option maxRecDepth 100000 in
set_option maxHeartbeats 1000000 in
theorem kept_any (cap : Value) (v : Value) (xs : List Event) (p : Event → Bool) (w : World) (hv : EventsV w v xs)
    (hf : ∀ k (h : k < xs.length) (W : World), Below w.heap.size w W → Calls Try.prog 35 #[eventV xs[k], cap] W fun e w' => e = .returned (.bool (p xs[k])) ∧ Below W.heap.size W w') :
    Calls Try.prog 34 #[.func (.func 35) #[] #[cap], v] w fun e w' => ∃ v', e = .returned v' ∧ KeptRow w' w.heap.size v' (xs.filter p) ∧ Below w.heap.size w w' := by
  obtain ⟨a, c, rfl, hv1, hv2, hv3, hv4⟩ := hv
  have HF := Lib.hid hf
  have HV := Lib.hid hv4
  clear hf hv4
  have hl1 : xs.length ≤ 4398046510976 := by omega
  go_enter Try.func34, Try.ntmps34
  go_wp2_with fail
  go_loopw [5, 10] (fun o i wr => ∃ (k : Nat), k ≤ xs.length ∧ i = .int .i64 k ∧ Hid (KeptRow wr w.heap.size o (keptTo p xs k)) ∧ Below w.heap.size w wr) (fun _ i _ => xs.length - (intOf i).toNat)
  case atStart => exact ⟨0, by omega, rfl, Lib.hid (World.ownsRow_nil _ _ _ _), Below.refl _ _⟩
  case round =>
    obtain ⟨k, hk, rfl, HO, hB⟩ := hrel
    have HB := Lib.hid hB
    clear hB
    by_cases hlt : k < xs.length
    · obtain ⟨b, off, rfl, hcell⟩ := HV.out (by intro h; rw [h] at hlt; simp at hlt)
      obtain ⟨y0, y1, y2, y3⟩ := EventAt.ext (Ext.below HB.out) (hcell k hlt)
      unfold IntAt at y0 y1 y2 y3
      clear hcell
      have hkl := keptTo_le p xs k
      by_cases hp : p xs[k] = true
      · have HP := Lib.hid hp
        clear hp
        go_wp2_with fail
        refine (HF.out k hlt _ (HB.out.trans ((balloc _ _).mono HB.out.size))).mono ?_
        rw [HP.out]
        rintro e w1 ⟨rfl, hb⟩
        have hb1 := bthen (balloc _ _) hb
        have HB1 := Lib.hid (bthen HB.out hb1)
        have HO1 := Lib.hid (Below.kept HO.out hb1)
        obtain ⟨bx, hbx⟩ : ∃ bx, bx = wr.heap.size := ⟨_, rfl⟩
        have hc1 := fun o => (bcell hb).1 wr.heap.size o (by simp)
        have r0 := (hc1 0).trans (box_at 0 rfl)
        have r1 := (hc1 1).trans (box_at 1 rfl)
        have r2 := (hc1 2).trans (box_at 2 rfl)
        have r3 := (hc1 3).trans (box_at 3 rfl)
        rw [← hbx] at r0 r1 r2 r3 ⊢
        have HSZ := Lib.hid HB1.out.size
        clear hc1 hb hb1 hbx y0 y1 y2 y3
        go_wp2_with (at_builtin; refine append_elem rfl (.tmp 17) (.tmp 19) 27 rfl w.heap.size 39 _ 4 32 Try.underlying27 infoEvent rfl (by decide) _ _ _ rfl HO1.out (evCells xs[k]) w1.heap.size rfl rfl rfl rfl (by omega) (by omega) HSZ.out ?_)
        intro v2 w3 hown3 hbel3 hgr3
        have HN : Hid (KeptRow w3 w.heap.size v2 (keptTo p xs (k + 1))) := Lib.hid (by rw [keptTo_yes p xs k hlt HP.out]; exact KeptRow.snoc rfl hown3)
        obtain ⟨va, vc, rfl⟩ := own_shape hown3
        have HB3 := Lib.hid (HB1.out.trans hbel3)
        clear hown3 hbel3 hgr3 HO1 HSZ r0 r1 r2 r3
        go_wp2
        go_roundw
        case rel => exact ⟨k + 1, by omega, by go_num, HN, HB3.out⟩
        case measure => simp [intOf]; omega
      · have hp : p xs[k] = false := by simpa using hp
        have HP := Lib.hid hp
        clear hp
        go_wp2_with fail
        refine (HF.out k hlt _ (HB.out.trans ((balloc _ _).mono HB.out.size))).mono ?_
        rw [HP.out]
        rintro e w1 ⟨rfl, hb⟩
        have hb1 := bthen (balloc _ _) hb
        have HB1 := Lib.hid (bthen HB.out hb1)
        have HO1 := Lib.hid (Below.kept HO.out hb1)
        clear hb hb1 y0 y1 y2 y3
        go_wp2_with fail
        go_roundw
        case rel => exact ⟨k + 1, by omega, by go_num, Lib.hid (by rw [keptTo_no p xs k hlt HP.out]; exact HO1.out), HB1.out⟩
        case measure => simp [intOf]; omega
    · obtain rfl : k = xs.length := by omega
      have HK : Hid (KeptRow wr w.heap.size u5 (xs.filter p)) := Lib.hid (by rw [← keptTo_all]; exact HO.out)
      obtain ⟨va, vc, rfl⟩ := own_shape HK.out
      go_wp2_with fail
      go_ret
      exact ⟨_, rfl, HK.out, HB.out⟩
end Go.Proofs.Ytjhhncahlijohaa
