/- The law ViewAlike: its cases, plain; what a configuration's box holds behind each. -/
import Derived.Test.YtjhhncahlijohaaLaw23b
set_option linter.unusedVariables false
set_option linter.unusedSimpArgs false
namespace Go.Proofs.Ytjhhncahlijohaa
open Go.RowKit

def vaCfg (which k : Nat) : Config :=
  match which with
  | 0 => ⟨11 + k, 2, [⟨1, [plT1], [plI1, plI2]⟩, ⟨0, [plT3], []⟩], [plW1, plW2], [plO]⟩
  | 1 => ⟨10, 3 + k, [⟨1, [plT1], [plI1, plI2]⟩, ⟨0, [plT3], []⟩], [plW1, plW2], [plO]⟩
  | 2 => ⟨10, 2, [⟨1, [plT1], [plI1, plI2]⟩, ⟨0, [plT3], []⟩], [plW1, ⟨6, 8, 1⟩], [plO]⟩
  | 3 => ⟨10, 2, [⟨1, [plT1], [plI1, plI2]⟩, ⟨0, [plT3], []⟩], [plW1], [plO]⟩
  | 4 => ⟨10, 2, [⟨1, [plT1], [plI1, plI2]⟩, ⟨0, [plT3], []⟩], [plW1, plW2], [⟨1, 0, 1, 3 + (k % 4 : Nat)⟩]⟩
  | 5 => ⟨10, 2, [⟨1, [plT1], [plI1, plI2]⟩, ⟨0, [plT3], []⟩], [plW1, plW2], []⟩
  | 6 => ⟨10, 2, [⟨1, [⟨0, 10, 10, 1, 4, 1⟩], [plI1, plI2]⟩, ⟨0, [plT3], []⟩], [plW1, plW2], [plO]⟩
  | 7 => ⟨10, 2, [⟨1, [plT1], [⟨1, 8 + k⟩, plI2]⟩, ⟨0, [plT3], []⟩], [plW1, plW2], [plO]⟩
  | 8 => ⟨10, 2, [⟨1, [plT1], [plI1, plI2]⟩, ⟨0, [plT3], []⟩, ⟨0, [], []⟩], [plW1, plW2], [plO]⟩
  | 9 => ⟨10, 2, [⟨1, [plT1], [plI1, plI2]⟩, ⟨0, [plT3, ⟨0, 9, 9, 1 + k, 1 + k, 9⟩], []⟩], [plW1, plW2], [plO]⟩
  | _ => ⟨10, 2, [⟨1, [plT1], [plI1, plI2]⟩, ⟨0, [plT3], [⟨10, 0⟩, ⟨1, k⟩]⟩], [plW1, plW2], [plO]⟩
def vaWant (which : Nat) : Bool := decide (9 ≤ which)
theorem va_all : ∀ (which : Fin 11) (k : Fin 8), alikeB plainCfg (vaCfg which k) = vaWant which ∧ alikeB (vaCfg which k) plainCfg = vaWant which := by decide +kernel
theorem va_self : alikeB plainCfg plainCfg = true := by decide +kernel
theorem va_zero : alikeB ⟨0, 0, [], [], []⟩ ⟨0, 0, [], [], []⟩ = false := by decide +kernel
/-- The second configuration's box behind a case. -/
structure VaSt (w W : World) (gc gd b : Nat) (d : Config) : Prop where
  below : Below w.heap.size w W
  plain : PlainB W b plT1 plI1 plI2 plT3 (plC4 b) plW1 plW2 plO
  box : W.heap[gc]? = some (.cells #[.int .i64 10, .int .i64 2, plainPs b, plainWs b, plainOs b] 26 (0, 0))
  other : CfgP W gd d
end Go.Proofs.Ytjhhncahlijohaa
