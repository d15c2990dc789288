/- The data of a configuration, and how it lies in memory. -/
import Derived.Test.YtkjjfidbmkpljaaBase
set_option linter.unusedVariables false
set_option linter.unusedSimpArgs false
namespace Go.Proofs.Ytkjjfidbmkpljaa
open Go.RowKit

structure Task where
  kind : Int
  period : Int
  deadline : Int
  clow : Int
  chigh : Int
  prio : Int
deriving DecidableEq
structure Instr where
  op : Int
  arg : Int
deriving DecidableEq
structure Part where
  level : Int
  tasks : List Task
  code : List Instr
deriving DecidableEq
structure Window where
  from_ : Int
  to_ : Int
  part : Int
deriving DecidableEq
structure Port where
  kind : Int
  from_ : Int
  to_ : Int
  size : Int
deriving DecidableEq
structure Config where
  frame : Int
  quiet : Int
  parts : List Part
  windows : List Window
  ports : List Port
deriving DecidableEq

def IntAt (w : World) (b o : Nat) (x : Int) : Prop := w.cell? ⟨b, o, none⟩ = some (.int .i64 x)
theorem IntAt.ext {w w' : World} (e : Ext w w') {b o : Nat} {x : Int} (h : IntAt w b o x) : IntAt w' b o x := e _ _ h
def TaskAt (w : World) (b o : Nat) (x : Task) : Prop := IntAt w b o x.kind ∧ IntAt w b (o + 1) x.period ∧ IntAt w b (o + 2) x.deadline ∧ IntAt w b (o + 3) x.clow ∧ IntAt w b (o + 4) x.chigh ∧ IntAt w b (o + 5) x.prio
theorem TaskAt.ext {w w' : World} (e : Ext w w') {b o : Nat} {x : Task} (h : TaskAt w b o x) : TaskAt w' b o x :=
  ⟨h.1.ext e, h.2.1.ext e, h.2.2.1.ext e, h.2.2.2.1.ext e, h.2.2.2.2.1.ext e, h.2.2.2.2.2.ext e⟩
def InstrAt (w : World) (b o : Nat) (x : Instr) : Prop := IntAt w b o x.op ∧ IntAt w b (o + 1) x.arg
theorem InstrAt.ext {w w' : World} (e : Ext w w') {b o : Nat} {x : Instr} (h : InstrAt w b o x) : InstrAt w' b o x := ⟨h.1.ext e, h.2.ext e⟩
def WindowAt (w : World) (b o : Nat) (x : Window) : Prop := IntAt w b o x.from_ ∧ IntAt w b (o + 1) x.to_ ∧ IntAt w b (o + 2) x.part
theorem WindowAt.ext {w w' : World} (e : Ext w w') {b o : Nat} {x : Window} (h : WindowAt w b o x) : WindowAt w' b o x := ⟨h.1.ext e, h.2.1.ext e, h.2.2.ext e⟩
def PortAt (w : World) (b o : Nat) (x : Port) : Prop := IntAt w b o x.kind ∧ IntAt w b (o + 1) x.from_ ∧ IntAt w b (o + 2) x.to_ ∧ IntAt w b (o + 3) x.size
theorem PortAt.ext {w w' : World} (e : Ext w w') {b o : Nat} {x : Port} (h : PortAt w b o x) : PortAt w' b o x := ⟨h.1.ext e, h.2.1.ext e, h.2.2.1.ext e, h.2.2.2.ext e⟩
def IntsV (w : World) (v : Value) (xs : List Int) : Prop := SliceAt IntAt 1 8 w v xs
def TasksV (w : World) (v : Value) (xs : List Task) : Prop := SliceAt TaskAt 6 48 w v xs
def CodeV (w : World) (v : Value) (xs : List Instr) : Prop := SliceAt InstrAt 2 16 w v xs
def WindowsV (w : World) (v : Value) (xs : List Window) : Prop := SliceAt WindowAt 3 24 w v xs
def PortsV (w : World) (v : Value) (xs : List Port) : Prop := SliceAt PortAt 4 32 w v xs
theorem IntsV.ext {w w' : World} (e : Ext w w') {v : Value} {xs : List Int} (h : IntsV w v xs) : IntsV w' v xs := SliceAt.ext (fun _ _ _ => IntAt.ext e) h
theorem TasksV.ext {w w' : World} (e : Ext w w') {v : Value} {xs : List Task} (h : TasksV w v xs) : TasksV w' v xs := SliceAt.ext (fun _ _ _ => TaskAt.ext e) h
theorem CodeV.ext {w w' : World} (e : Ext w w') {v : Value} {xs : List Instr} (h : CodeV w v xs) : CodeV w' v xs := SliceAt.ext (fun _ _ _ => InstrAt.ext e) h
theorem WindowsV.ext {w w' : World} (e : Ext w w') {v : Value} {xs : List Window} (h : WindowsV w v xs) : WindowsV w' v xs := SliceAt.ext (fun _ _ _ => WindowAt.ext e) h
theorem PortsV.ext {w w' : World} (e : Ext w w') {v : Value} {xs : List Port} (h : PortsV w v xs) : PortsV w' v xs := SliceAt.ext (fun _ _ _ => PortAt.ext e) h
/-- A part's three cells: its level, its tasks' slice, its code's. -/
structure PartIs (w : World) (tv cv : Value) (x : Part) : Prop where
  tasks : TasksV w tv x.tasks
  code : CodeV w cv x.code
theorem PartIs.ext {w w' : World} (e : Ext w w') {tv cv : Value} {x : Part} (h : PartIs w tv cv x) : PartIs w' tv cv x := ⟨h.tasks.ext e, h.code.ext e⟩
def PartAt (w : World) (b o : Nat) (x : Part) : Prop := IntAt w b o x.level ∧ ∃ tv cv, w.cell? ⟨b, o + 1, none⟩ = some tv ∧ w.cell? ⟨b, o + 2, none⟩ = some cv ∧ PartIs w tv cv x
theorem PartAt.ext {w w' : World} (e : Ext w w') {b o : Nat} {x : Part} (h : PartAt w b o x) : PartAt w' b o x := by
  obtain ⟨h1, tv, cv, h2, h3, h4⟩ := h
  exact ⟨h1.ext e, tv, cv, e _ _ h2, e _ _ h3, h4.ext e⟩
def PartsV (w : World) (v : Value) (xs : List Part) : Prop := SliceAt PartAt 3 56 w v xs
theorem PartsV.ext {w w' : World} (e : Ext w w') {v : Value} {xs : List Part} (h : PartsV w v xs) : PartsV w' v xs := SliceAt.ext (fun _ _ _ => PartAt.ext e) h
/-- A configuration's three slices. -/
structure CfgIs (w : World) (pv wv ov : Value) (c : Config) : Prop where
  parts : PartsV w pv c.parts
  windows : WindowsV w wv c.windows
  ports : PortsV w ov c.ports
theorem CfgIs.ext {w w' : World} (e : Ext w w') {pv wv ov : Value} {c : Config} (h : CfgIs w pv wv ov c) : CfgIs w' pv wv ov c := ⟨h.parts.ext e, h.windows.ext e, h.ports.ext e⟩
/-- A configuration as a value. -/
def CfgV (w : World) (v : Value) (c : Config) : Prop := ∃ pv wv ov, v = .agg #[.int .i64 c.frame, .int .i64 c.quiet, pv, wv, ov] ∧ CfgIs w pv wv ov c
theorem CfgV.ext {w w' : World} (e : Ext w w') {v : Value} {c : Config} (h : CfgV w v c) : CfgV w' v c := by
  obtain ⟨pv, wv, ov, h1, h2⟩ := h
  exact ⟨pv, wv, ov, h1, h2.ext e⟩
/-- A configuration in a block of its own. -/
structure CfgC (w : World) (g : Nat) (pv wv ov : Value) (c : Config) : Prop where
  c0 : IntAt w g 0 c.frame
  c1 : IntAt w g 1 c.quiet
  c2 : w.cell? ⟨g, 2, none⟩ = some pv
  c3 : w.cell? ⟨g, 3, none⟩ = some wv
  c4 : w.cell? ⟨g, 4, none⟩ = some ov
  is : CfgIs w pv wv ov c
theorem CfgC.ext {w w' : World} (e : Ext w w') {g : Nat} {pv wv ov : Value} {c : Config} (h : CfgC w g pv wv ov c) : CfgC w' g pv wv ov c :=
  ⟨h.c0.ext e, h.c1.ext e, e _ _ h.c2, e _ _ h.c3, e _ _ h.c4, h.is.ext e⟩
def CfgP (w : World) (g : Nat) (c : Config) : Prop := ∃ pv wv ov, CfgC w g pv wv ov c
theorem CfgC.p {w : World} {g : Nat} {pv wv ov : Value} {c : Config} (h : CfgC w g pv wv ov c) : CfgP w g c := ⟨pv, wv, ov, h⟩
theorem CfgP.ext {w w' : World} (e : Ext w w') {g : Nat} {c : Config} (h : CfgP w g c) : CfgP w' g c := by
  obtain ⟨pv, wv, ov, h1, h2, h3, h4, h5, h6⟩ := h
  exact ⟨pv, wv, ov, h1.ext e, h2.ext e, e _ _ h3, e _ _ h4, e _ _ h5, h6.ext e⟩
abbrev taskV (x : Task) : Value := .agg #[.int .i64 x.kind, .int .i64 x.period, .int .i64 x.deadline, .int .i64 x.clow, .int .i64 x.chigh, .int .i64 x.prio]
abbrev portV (x : Port) : Value := .agg #[.int .i64 x.kind, .int .i64 x.from_, .int .i64 x.to_, .int .i64 x.size]
end Go.Proofs.Ytkjjfidbmkpljaa
