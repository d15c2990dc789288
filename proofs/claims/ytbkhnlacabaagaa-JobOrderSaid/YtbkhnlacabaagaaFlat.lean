/- Rows of the call's own whose cells are known element by element. -/
import Derived.Test.YtbkhnlacabaagaaEvA
set_option linter.unusedVariables false
set_option linter.unusedSimpArgs false
namespace Go.Proofs.Ytbkhnlacabaagaa
open Go.RowKit

def taskCells (x : Task) : List Value := [.int .i64 x.kind, .int .i64 x.period, .int .i64 x.deadline, .int .i64 x.clow, .int .i64 x.chigh, .int .i64 x.prio]
def instrCells (x : Instr) : List Value := [.int .i64 x.op, .int .i64 x.arg]
def windowCells (x : Window) : List Value := [.int .i64 x.from_, .int .i64 x.to_, .int .i64 x.part]
def portCells (x : Port) : List Value := [.int .i64 x.kind, .int .i64 x.from_, .int .i64 x.to_, .int .i64 x.size]
theorem flatTask : Flat TaskAt 6 taskCells where
  pos := by decide
  len _ := rfl
  one x u hu := by simp [taskCells] at hu; rcases hu with rfl | rfl | rfl | rfl | rfl | rfl <;> rfl
  of W b o x h := ⟨h 0 _ rfl, h 1 _ rfl, h 2 _ rfl, h 3 _ rfl, h 4 _ rfl, h 5 _ rfl⟩
  cell W b o x h j u hu := by
    obtain ⟨h0, h1, h2, h3, h4, h5⟩ := h
    match j, hu with
    | 0, hu => injection hu with hu; subst hu; exact h0
    | 1, hu => injection hu with hu; subst hu; exact h1
    | 2, hu => injection hu with hu; subst hu; exact h2
    | 3, hu => injection hu with hu; subst hu; exact h3
    | 4, hu => injection hu with hu; subst hu; exact h4
    | 5, hu => injection hu with hu; subst hu; exact h5
theorem flatInstr : Flat InstrAt 2 instrCells where
  pos := by decide
  len _ := rfl
  one x u hu := by simp [instrCells] at hu; rcases hu with rfl | rfl <;> rfl
  of W b o x h := ⟨h 0 _ rfl, h 1 _ rfl⟩
  cell W b o x h j u hu := by
    obtain ⟨h0, h1⟩ := h
    match j, hu with
    | 0, hu => injection hu with hu; subst hu; exact h0
    | 1, hu => injection hu with hu; subst hu; exact h1
theorem flatWindow : Flat WindowAt 3 windowCells where
  pos := by decide
  len _ := rfl
  one x u hu := by simp [windowCells] at hu; rcases hu with rfl | rfl | rfl <;> rfl
  of W b o x h := ⟨h 0 _ rfl, h 1 _ rfl, h 2 _ rfl⟩
  cell W b o x h j u hu := by
    obtain ⟨h0, h1, h2⟩ := h
    match j, hu with
    | 0, hu => injection hu with hu; subst hu; exact h0
    | 1, hu => injection hu with hu; subst hu; exact h1
    | 2, hu => injection hu with hu; subst hu; exact h2
theorem flatPort : Flat PortAt 4 portCells where
  pos := by decide
  len _ := rfl
  one x u hu := by simp [portCells] at hu; rcases hu with rfl | rfl | rfl | rfl <;> rfl
  of W b o x h := ⟨h 0 _ rfl, h 1 _ rfl, h 2 _ rfl, h 3 _ rfl⟩
  cell W b o x h j u hu := by
    obtain ⟨h0, h1, h2, h3⟩ := h
    match j, hu with
    | 0, hu => injection hu with hu; subst hu; exact h0
    | 1, hu => injection hu with hu; subst hu; exact h1
    | 2, hu => injection hu with hu; subst hu; exact h2
    | 3, hu => injection hu with hu; subst hu; exact h3
end Go.Proofs.Ytbkhnlacabaagaa
