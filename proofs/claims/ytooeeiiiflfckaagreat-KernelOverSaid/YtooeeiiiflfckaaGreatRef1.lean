/- What the reference answers of programs and tasks. -/
import Derived.Test.YtooeeiiiflfckaaGreatChkA
set_option linter.unusedVariables false
set_option linter.unusedSimpArgs false
namespace Go.Proofs.YtooeeiiiflfckaaGreat
open Go.RowKit
def tasksOkFrom (ts : List Task) : Nat -> List Task -> Bool
 | _, [] => true
 | k, t :: r => (taskMay t && !((ts.take k).any fun x => decide (x.prio = t.prio))) && tasksOkFrom ts (k + 1) r
def tasksOk (ts : List Task) : Bool := tasksOkFrom ts 0 ts
def lvlOk (level : Int) (t : Task) : Bool := !(decide (level = 0) && decide (t.chigh ≠ t.clow))
theorem tasksOkFrom_step (ts : List Task) (k : Nat) (h : k < ts.length) :
  tasksOkFrom ts k (ts.drop k) = ((taskMay ts[k] && !((ts.take k).any fun x => decide (x.prio = ts[k].prio))) && tasksOkFrom ts (k + 1) (ts.drop (k + 1))) := by
 rw [List.drop_eq_getElem_cons h]
 rfl
theorem tasksFrom_eq (level : Int) (ts l : List Task) : ∀ k, tasksFrom level ts k l = (l.all (lvlOk level) && tasksOkFrom ts k l) := by
 induction l with
 | nil => intro k; rfl
 | cons t r ih =>
  intro k
  unfold tasksFrom tasksOkFrom
  rw [ih, List.all_cons]
  unfold lvlOk
  generalize taskMay t = a
  generalize (!(decide (level = 0) && decide (t.chigh ≠ t.clow))) = b
  generalize (!((ts.take k).any fun x => decide (x.prio = t.prio))) = c
  cases a <;> cases b <;> cases c <;> simp
theorem tasksMay_eq (p : Part) : tasksMay p = (p.tasks.all (lvlOk p.level) && (decide (p.tasks.length <= 6) && tasksOk p.tasks)) := by
 unfold tasksMay tasksOk
 rw [tasksFrom_eq]
 cases decide (p.tasks.length <= 6) <;> simp
end Go.Proofs.YtooeeiiiflfckaaGreat
