/- Several texts of this claim as one. -/
import Derived.Test.YtooeeiiiflfckaaGreatEvA
import Derived.Test.YtooeeiiiflfckaaGreatLibA
/- Rows and events: how they lie in memory. -/
set_option linter.unusedVariables false
set_option linter.unusedSimpArgs false
namespace Go.Proofs.YtooeeiiiflfckaaGreat
open Go.RowKit
structure Row where
 tick : Int
 owner : Int
 dealt : Bool
 mode : Int
 events : List Event
deriving DecidableEq
def BoolAt (w : World) (b o : Nat) (x : Bool) : Prop := w.cell? ⟨b, o, none⟩ = some (.bool x)
theorem BoolAt.ext {w w' : World} (e : Ext w w') {b o : Nat} {x : Bool} (h : BoolAt w b o x) : BoolAt w' b o x := e _ _ h
def RowAt (w : World) (b o : Nat) (x : Row) : Prop := IntAt w b o x.tick /\ IntAt w b (o + 1) x.owner /\ BoolAt w b (o + 2) x.dealt /\ IntAt w b (o + 3) x.mode /\ ∃ ev, w.cell? ⟨b, o + 4, none⟩ = some ev /\ EventsV w ev x.events
theorem RowAt.ext {w w' : World} (e : Ext w w') {b o : Nat} {x : Row} (h : RowAt w b o x) : RowAt w' b o x := by
 obtain ⟨h0, h1, h2, h3, ev, h4, h5⟩ := h
 exact ⟨h0.ext e, h1.ext e, h2.ext e, h3.ext e, ev, e _ _ h4, h5.ext e⟩
def RowsV (w : World) (v : Value) (xs : List Row) : Prop := SliceAt RowAt 5 56 w v xs
theorem RowsV.ext {w w' : World} (e : Ext w w') {v : Value} {xs : List Row} (h : RowsV w v xs) : RowsV w' v xs := SliceAt.ext (fun _ _ _ => RowAt.ext e) h
theorem told_row : Told RowAt 5 where
 has h j hj := by
  obtain ⟨h0, h1, h2, h3, ev, h4, h5⟩ := h
  rcases (show j = 0 ∨ j = 1 ∨ j = 2 ∨ j = 3 ∨ j = 4 by omega) with rfl | rfl | rfl | rfl | rfl
  ·exact IntAt.has h0
  ·exact IntAt.has h1
  ·exact ⟨_, h2, rfl⟩
  ·exact IntAt.has h3
  ·obtain ⟨a, cap, rfl, -⟩ := h5
   exact ⟨_, h4, rfl⟩
 move h e hm := by
  obtain ⟨h0, h1, h2, h3, ev, h4, h5⟩ := h
  exact ⟨hm 0 _ (by decide) h0, hm 1 _ (by decide) h1, hm 2 _ (by decide) h2, hm 3 _ (by decide) h3, ev, hm 4 _ (by decide) h4, h5.ext e⟩
theorem infoRow : (Tryz.prog.info? 41).map (fun i => (i.zero, i.size, i.bytes)) = some (some (.agg #[.int .i64 0, .int .i64 0, .bool false, .int .i64 0, .slice none 0 0]), 5, 56) := by kernel_rfl
end Go.Proofs.YtooeeiiiflfckaaGreat
/- Rows: their copies and their comparison. -/
namespace Go.Proofs.YtooeeiiiflfckaaGreat
open Go.RowKit
set_option maxRecDepth 100000 in
set_option maxHeartbeats 400000 in
theorem sameRow_any (x : Row) (ev ev' : Value) (w : World) (hx : EventsV w ev x.events) (hx' : EventsV w ev' x.events) :
  Calls Tryz.prog 21 #[.agg #[.int .i64 x.tick, .int .i64 x.owner, .bool x.dealt, .int .i64 x.mode, ev], .agg #[.int .i64 x.tick, .int .i64 x.owner, .bool x.dealt, .int .i64 x.mode, ev']] w fun e w' => e = .returned (.bool true) /\ Below w.heap.size w w' := by
 have HX := Lib.hid (And.intro hx hx')
 have HB0 := Lib.hid (bthen (balloc w (.cells #[.int .i64 x.tick, .int .i64 x.owner, .bool x.dealt, .int .i64 x.mode, ev] 41)) (balloc _ (.cells #[.int .i64 x.tick, .int .i64 x.owner, .bool x.dealt, .int .i64 x.mode, ev'] 41)))
 clear hx hx'
 go_enter Tryz.func21, Tryz.ntmps21
 go_wp2_with fail
 refine (sameEvents_any _ _ x.events _ (HX.out.1.ext (Ext.below HB0.out)) (HX.out.2.ext (Ext.below HB0.out))).mono ?_
 rintro e w1 ⟨rfl, hb1⟩
 have HB1 := Lib.hid (bthen HB0.out hb1)
 clear hb1
 go_wp2_with fail
 go_ret
 exact ⟨rfl, HB1.out⟩
end Go.Proofs.YtooeeiiiflfckaaGreat
