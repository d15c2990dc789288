/- What a row looks like to high parts: view.high, kept, glance. -/
import Derived.Test.YtjhhncahlijohaaFlat
import Derived.Test.YtjhhncahlijohaaRowD
import Derived.Test.YtjhhncahlijohaaChk7
import Derived.Test.YtjhhncahlijohaaTail
set_option linter.unusedVariables false
set_option linter.unusedSimpArgs false
namespace Go.Proofs.Ytjhhncahlijohaa
open Go.RowKit

def evCells (x : Event) : List Value := [.int .i64 x.kind, .int .i64 x.part, .int .i64 x.task, .int .i64 x.value]
abbrev eventV (x : Event) : Value := .agg #[.int .i64 x.kind, .int .i64 x.part, .int .i64 x.task, .int .i64 x.value]
theorem flatEvent : Flat EventAt 4 evCells where
  pos := by decide
  len _ := rfl
  one x u hu := by simp [evCells] at hu; rcases hu with rfl | rfl | rfl | rfl <;> rfl
  of W b o x h := ⟨h 0 _ rfl, h 1 _ rfl, h 2 _ rfl, h 3 _ rfl⟩
  cell W b o x h j u hu := by
    obtain ⟨h0, h1, h2, h3⟩ := h
    match j, hu with
    | 0, hu => injection hu with hu; subst hu; exact h0
    | 1, hu => injection hu with hu; subst hu; exact h1
    | 2, hu => injection hu with hu; subst hu; exact h2
    | 3, hu => injection hu with hu; subst hu; exact h3
set_option maxRecDepth 100000 in
set_option maxHeartbeats 400000 in
theorem high_any (g : Nat) (c : Config) (p : Int) (w : World) (hc : CfgP w g c) :
    Calls Try.prog 33 #[.pointer (some ⟨g, 0, none⟩), .int .i64 p] w fun e w' => e = .returned (.bool (isPart c.parts p 1)) ∧ w' = w := by
  obtain ⟨pv, wv, ov, h0, h1, h2, h3, h4, h5⟩ := hc
  obtain ⟨a, cap, rfl, hp1, hp2, hp3, hp4⟩ := h5.parts
  clear h0 h1 h3 h4 h5
  by_cases h : 0 ≤ p ∧ p < c.parts.length
  · obtain ⟨n, rfl⟩ := Int.eq_ofNat_of_zero_le h.1
    have hlt : n < c.parts.length := by omega
    obtain ⟨b, off, rfl, hcell⟩ := hp4 (by intro h; rw [h] at hlt; simp at hlt)
    obtain ⟨y0, -⟩ := hcell n hlt
    unfold IntAt at y0
    clear hcell
    have HI := Lib.hid (isPart_in c.parts n 1 hlt)
    go_enter Try.func33, Try.ntmps33
    go_wp2_with fail
    go_ret
    exact ⟨ret_bool (by rw [HI.out]; (rw [Bool.eq_iff_iff]; (try simp only [beq_iff_eq, beq_eq_false_iff_ne, ne_eq] at *); (try simp); (try omega))), rfl⟩
  · have HI := Lib.hid (isPart_out c.parts p 1 h)
    clear hp4
    by_cases h0 : 0 ≤ p
    · have h1 : (c.parts.length : Int) ≤ p := by omega
      go_enter Try.func33, Try.ntmps33
      go_wp2_with fail
      go_ret
      exact ⟨ret_bool HI.out.symm, rfl⟩
    · have h1 : p < 0 := by omega
      go_enter Try.func33, Try.ntmps33
      go_wp2_with fail
      go_ret
      exact ⟨ret_bool HI.out.symm, rfl⟩
def keepB (c : Config) (x : Event) : Bool := decide (x.part = -1) || isPart c.parts x.part 1
set_option maxRecDepth 100000 in
set_option maxHeartbeats 400000 in
theorem glance1_any (g bx : Nat) (c : Config) (x : Event) (w : World) (hc : CfgP w g c) (hb : w.cell? ⟨bx, 0, none⟩ = some (.pointer (some ⟨g, 0, none⟩))) :
    Calls Try.prog 35 #[eventV x, .pointer (some ⟨bx, 0, none⟩)] w fun e w' => e = .returned (.bool (keepB c x)) ∧ Below w.heap.size w w' := by
  have hb' := Ext.alloc w (.cells #[.int .i64 x.kind, .int .i64 x.part, .int .i64 x.task, .int .i64 x.value] 39) _ _ hb
  have HC := Lib.hid (hc.ext (Ext.alloc w (.cells #[.int .i64 x.kind, .int .i64 x.part, .int .i64 x.task, .int .i64 x.value] 39)))
  clear hc hb
  by_cases h : x.part = -1
  · have h' : (x.part == -1) = true := by simpa using h
    have HK := Lib.hid (show keepB c x = true by unfold keepB; simp [h])
    clear h
    go_enter Try.func35, Try.ntmps35
    go_wp2_with fail
    go_ret
    exact ⟨ret_bool HK.out.symm, balloc _ _⟩
  · have h' : (x.part == -1) = false := by simpa using h
    have HK := Lib.hid (show keepB c x = isPart c.parts x.part 1 by unfold keepB; simp [h])
    clear h
    go_enter Try.func35, Try.ntmps35
    go_wp2_with ((go_at_call 33; refine (high_any g c _ _ HC.out).mono ?_; rintro e w' ⟨rfl, rfl⟩))
    go_ret
    exact ⟨ret_bool HK.out.symm, balloc _ _⟩
end Go.Proofs.Ytjhhncahlijohaa
