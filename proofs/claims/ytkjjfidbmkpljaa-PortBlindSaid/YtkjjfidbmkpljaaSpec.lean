/- What the document says of configurations, as plain functions. -/
import Derived.Test.YtkjjfidbmkpljaaData
set_option linter.unusedVariables false
set_option linter.unusedSimpArgs false
namespace Go.Proofs.Ytkjjfidbmkpljaa

def taskMay (t : Task) : Bool := decide ((t.kind = 0 ∨ t.kind = 1) ∧ 1 ≤ t.period ∧ t.period ≤ 1024 ∧ 1 ≤ t.deadline ∧ t.deadline ≤ t.period ∧ 1 ≤ t.clow ∧ t.clow ≤ t.chigh ∧ t.chigh ≤ t.deadline ∧ 0 ≤ t.prio ∧ t.prio ≤ 255)
def below (op many : Int) : Int :=
  if op = 0 ∨ op = 8 ∨ op = 11 then 1 else if op = 1 then 256 else if op = 2 ∨ op = 3 ∨ op = 4 ∨ op = 5 then 16 else if op = 6 ∨ op = 7 then many else if op = 9 ∨ op = 10 then 8 else 0
def instrMay (many : Int) (x : Instr) : Bool := decide (0 ≤ x.arg ∧ x.arg < below x.op many)
def codeMay (p : List Instr) : Bool := decide (p.length ≤ 64) && p.all (instrMay p.length)
def winsFrom (frame parts : Int) : Int → List Window → Bool
  | _, [] => true
  | e, x :: r => decide (e ≤ x.from_ ∧ x.from_ < x.to_ ∧ x.to_ ≤ frame ∧ 0 ≤ x.part ∧ x.part < parts) && winsFrom frame parts x.to_ r
def windowsMay (c : Config) : Bool := winsFrom c.frame c.parts.length 0 c.windows && decide (c.windows.length ≤ 32)
/-- Is there such a part, of such a level? -/
def isPart (ps : List Part) (p l : Int) : Bool := decide (0 ≤ p ∧ p < ps.length) && decide ((ps[p.toNat]?.map (·.level)) = some l)
def portMay (ps : List Part) (x : Port) : Bool :=
  decide ((x.kind = 0 ∨ x.kind = 1) ∧ 1 ≤ x.size ∧ x.size ≤ (if x.kind = 0 then 1 else 8)) && isPart ps x.from_ 1 && isPart ps x.to_ 0
/-- May the tasks from k on be, of those ahead of them? -/
def tasksFrom (level : Int) (ts : List Task) : Nat → List Task → Bool
  | _, [] => true
  | k, t :: r => (taskMay t && !(decide (level = 0) && decide (t.chigh ≠ t.clow)) && !((ts.take k).any fun x => decide (x.prio = t.prio))) && tasksFrom level ts (k + 1) r
def tasksMay (p : Part) : Bool := decide (p.tasks.length ≤ 6) && tasksFrom p.level p.tasks 0 p.tasks
def levelMay (p : Part) : Bool := decide (p.level = 0 ∨ p.level = 1)
def checkCfg (c : Config) : Int :=
  if c.frame < 1 ∨ c.frame > 256 ∨ c.quiet < 1 ∨ c.quiet > 16 then 501
  else if c.parts.length < 1 ∨ c.parts.length > 8 ∨ c.parts.any (fun p => !levelMay p) = true then 502
  else if c.parts.any (fun p => !tasksMay p) = true then 503
  else if windowsMay c = false then 504
  else if c.ports.length > 8 ∨ c.ports.any (fun p => !portMay c.parts p) = true then 505
  else if c.parts.any (fun p => !codeMay p.code) = true then 506
  else 0
/-- Whose window a tick of a frame lies in. -/
def ownerAt (t : Int) : List Window → Int
  | [] => -1
  | x :: r => if x.from_ ≤ t ∧ t < x.to_ then x.part else ownerAt t r
def shareOf (part : Int) : List Window → Int
  | [] => 0
  | x :: r => (if x.part = part then x.to_ - x.from_ else 0) + shareOf part r
def atSpec (c : Config) (t : Int) : Int × Int := if checkCfg c ≠ 0 ∨ t < 0 ∨ t > 1099511627776 then (0, 600) else (ownerAt (t % c.frame) c.windows, 0)
def shareSpec (c : Config) (part : Int) : Int × Int := if checkCfg c ≠ 0 ∨ part < 0 ∨ part ≥ c.parts.length then (0, 600) else (shareOf part c.windows, 0)
/-- How many of the first n ticks are a part's. -/
def cnt (c : Config) (part : Int) : Nat → Int
  | 0 => 0
  | n + 1 => cnt c part n + if ownerAt ((n : Int) % c.frame) c.windows = part then 1 else 0
/-- The least of what n begins leave, and of m. -/
def leastTo (c : Config) (part : Int) (rest : Nat) (m : Int) : Nat → Int
  | 0 => m
  | n + 1 => min (leastTo c part rest m n) (cnt c part (n + rest) - cnt c part n)
def leastSpec (c : Config) (part len : Int) : Int × Int :=
  if checkCfg c ≠ 0 ∨ part < 0 ∨ part ≥ c.parts.length ∨ len < 0 ∨ len > 4096 then (0, 700)
  else (len / c.frame * cnt c part c.frame.toNat + leastTo c part (len % c.frame).toNat (cnt c part (len % c.frame).toNat) c.frame.toNat, 0)
end Go.Proofs.Ytkjjfidbmkpljaa
