/- What every program answers that is one: nocturnlaw23.awake. -/
import Derived.Test.YtjhhncahlijohaaPlB
import Derived.Test.YtjhhncahlijohaaAlike2
import Derived.Test.YtjhhncahlijohaaView4
import Derived.Test.YtjhhncahlijohaaRowC
set_option linter.unusedVariables false
set_option linter.unusedSimpArgs false
namespace Go.Proofs.Ytjhhncahlijohaa
open Go.RowKit

theorem num_any (x : Int) (w : World) : Calls Try.prog 8 #[.int .i64 x] w fun e w' => e = .returned (.int .i64 x) ∧ w' = w := by
  go_enter Try.func8, Try.ntmps8
  go_wp2_with fail
  go_ret
  exact ⟨rfl, rfl⟩
def GlanceV (w : World) (v : Value) (x : Glance) : Prop := ∃ ev, v = .agg #[.int .i64 x.tick, .int .i64 x.owner, .int .i64 x.mode, ev] ∧ EventsV w ev x.events
theorem GlanceV.ext {w w' : World} (e : Ext w w') {v : Value} {x : Glance} (h : GlanceV w v x) : GlanceV w' v x := by
  obtain ⟨ev, h1, h2⟩ := h
  exact ⟨ev, h1, h2.ext e⟩
theorem GlanceO.v {W : World} {B : Nat} {v : Value} {x : Glance} (h : GlanceO W B v x) (hB : x.events.length * 32 ≤ 140737488351232) : GlanceV W v x := by
  obtain ⟨ev, h1, h2⟩ := h
  exact ⟨ev, h1, h2.events hB⟩
set_option maxRecDepth 100000 in
set_option maxHeartbeats 1000000 in
theorem sameGlance_any (x : Glance) (v v' : Value) (w : World) (h : GlanceV w v x) (h' : GlanceV w v' x) :
    Calls Try.prog 13 #[v, v'] w fun e w' => e = .returned (.bool true) ∧ Below w.heap.size w w' := by
  obtain ⟨ev, rfl, hev⟩ := h
  obtain ⟨ev', rfl, hev'⟩ := h'
  obtain ⟨a1, a2, rfl, -⟩ := id hev
  obtain ⟨b1, b2, rfl, -⟩ := id hev'
  obtain ⟨wa, hw_wa⟩ : ∃ wa, wa = w.alloc (.cells #[.int .i64 x.tick, .int .i64 x.owner, .int .i64 x.mode, .slice a1 x.events.length a2] 32) := ⟨_, rfl⟩
  obtain ⟨ga, hg_ga⟩ : ∃ ga, ga = w.heap.size := ⟨_, rfl⟩
  have hb_wa : Below w.heap.size w wa := by rw [hw_wa]; exact balloc _ _
  have hk_ga : wa.heap[ga]? = some (.cells #[.int .i64 x.tick, .int .i64 x.owner, .int .i64 x.mode, .slice a1 x.events.length a2] 32 (0, 0)) := by rw [hw_wa, hg_ga]; exact blk_new _ _
  have hs_wa : wa.heap.size = w.heap.size + 1 := by rw [hw_wa]; simp
  obtain ⟨wb, hw_wb⟩ : ∃ wb, wb = wa.alloc (.cells #[.int .i64 x.tick, .int .i64 x.owner, .int .i64 x.mode, .slice b1 x.events.length b2] 32) := ⟨_, rfl⟩
  obtain ⟨gb, hg_gb⟩ : ∃ gb, gb = wa.heap.size := ⟨_, rfl⟩
  have hb_wb : Below wa.heap.size wa wb := by rw [hw_wb]; exact balloc _ _
  have hk_gb : wb.heap[gb]? = some (.cells #[.int .i64 x.tick, .int .i64 x.owner, .int .i64 x.mode, .slice b1 x.events.length b2] 32 (0, 0)) := by rw [hw_wb, hg_gb]; exact blk_new _ _
  have hs_wb : wb.heap.size = wa.heap.size + 1 := by rw [hw_wb]; simp
  have hka := keep_at hk_ga hb_wb
  have HB := Lib.hid (bthen hb_wa hb_wb)
  have HE := Lib.hid (And.intro (hev.ext (Ext.below HB.out)) (hev'.ext (Ext.below HB.out)))
  have y0 := BlockIs.of hka 0 _ rfl
  have y1 := BlockIs.of hka 1 _ rfl
  have y2 := BlockIs.of hka 2 _ rfl
  have y3 := BlockIs.of hka 3 _ rfl
  have z0 := BlockIs.of hk_gb 0 _ rfl
  have z1 := BlockIs.of hk_gb 1 _ rfl
  have z2 := BlockIs.of hk_gb 2 _ rfl
  have z3 := BlockIs.of hk_gb 3 _ rfl
  clear hka hk_ga hk_gb hb_wa hb_wb hev hev'
  go_enter Try.func13, Try.ntmps13
  go_wp2_with fail
  rw [← hw_wa, ← hw_wb]
  (try rw [← hs_wa])
  (try rw [← hg_gb])
  (try rw [← hg_ga])
  clear hw_wa hw_wb hg_gb hs_wa hs_wb
  refine (sameEvents_any _ _ x.events _ HE.out.1 HE.out.2).mono ?_
  rintro e w1 ⟨rfl, hb1⟩
  have HB1 := Lib.hid (bthen HB.out hb1)
  have HGA := Lib.hid hg_ga
  clear hb1 y0 y1 y2 y3 z0 z1 z2 z3 hg_ga
  go_wp2_with fail
  go_ret
  exact ⟨rfl, by first | exact HB1.out | (rw [HGA.out]; exact HB1.out)⟩
def row23a : Row := ⟨3, 1, false, 1, [⟨5, 1, 0, 0⟩, ⟨5, 0, 0, 0⟩, ⟨0, -1, -1, 0⟩]⟩
def row23b : Row := ⟨0, 2, false, 0, []⟩
def gl23 : Glance := ⟨3, -1, 1, [⟨5, 0, 0, 0⟩, ⟨0, -1, -1, 0⟩]⟩
def plN1 : Config := ⟨10, 2, [⟨1, [plT1], [plI1, plI2]⟩, ⟨0, [], []⟩], [plW1, plW2], [plO]⟩
def plN2 : Config := ⟨10, 2, [⟨1, [], [plI1, plI2]⟩, ⟨0, [], []⟩], [plW1, plW2], [plO]⟩
theorem spec23a : glanceSpec plainCfg row23a = some gl23 := by decide +kernel
theorem spec23b : glanceSpec plainCfg row23b = none := by decide +kernel
theorem alike23a : alikeB plainCfg plN1 = true := by decide +kernel
theorem alike23b : alikeB plainCfg plN2 = false := by decide +kernel
end Go.Proofs.Ytjhhncahlijohaa
