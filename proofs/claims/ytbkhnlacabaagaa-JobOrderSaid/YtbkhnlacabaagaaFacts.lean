/- Closed facts on the program, which every row of this seat asks. -/
import Derived.Test.YtbkhnlacabaagaaChecked
import Derived.KernelRfl
import Derived.JoinedOf
import GoSem.ClaimOpen
import GoSem.ClaimOpenFrom
import GoSem.ClaimJoined
set_option linter.unusedVariables false
set_option linter.unusedSimpArgs false
namespace Go.Proofs.Ytbkhnlacabaagaa
open Go
theorem fc_io : Try.prog.initOrder = String.ofList (List.map Char.ofNat [104, 97, 114, 110, 101, 115, 115, 32, 56, 97, 48, 53, 56, 49, 56, 97, 102, 102, 55, 54, 55, 54, 100, 102, 49, 51, 99, 56, 56, 100, 49, 48, 49, 50, 56, 55, 48, 49, 55, 98, 49, 56, 56, 100, 57, 52, 52, 56, 56, 55, 49, 48, 53, 49, 55, 101, 57, 54, 53, 97, 52, 52, 102, 51, 54, 48, 97, 48, 51, 102, 49, 51, 32, 99, 117, 116] ++ Char.ofNat 32 :: List.map Char.ofNat [97, 116, 32, 110, 111, 99, 116, 117, 114, 110, 47, 110, 111, 99, 116, 117, 114, 110, 108, 97, 119, 49, 52, 46, 74, 111, 98, 84, 105, 99, 107, 115, 32, 110, 111, 99, 116, 117, 114, 110, 47, 110, 111, 99, 116, 117, 114, 110, 108, 97, 119, 49, 52, 46, 74, 111, 98, 79, 114, 100, 101, 114, 32, 110, 111, 99, 116, 117, 114, 110, 47, 110, 111, 99, 116, 117, 114, 110, 108, 97, 119, 49, 52, 46, 74, 111, 98, 70, 111, 114, 109, 115, 32, 110, 111, 99, 116, 117, 114, 110, 47, 110, 111, 99, 116, 117, 114, 110, 108, 97, 119, 49, 52, 46, 74, 111, 98, 77, 105, 115, 115, 101, 100, 32, 110, 111, 99, 116, 117, 114, 110, 47, 110, 111, 99, 116, 117, 114, 110, 108, 97, 119, 49, 52, 46, 74, 111, 98, 68, 101, 109, 97, 110, 100, 115, 32, 110, 111, 99, 116, 117, 114, 110, 47, 110, 111, 99, 116, 117, 114, 110, 108, 97, 119, 49, 52, 46, 74, 111, 98, 65, 99, 116, 115, 32, 110, 111, 99, 116, 117, 114, 110, 47, 110, 111, 99, 116, 117, 114, 110, 108, 97, 119, 49, 52, 46, 74, 111, 98, 75, 105, 108, 108, 115]) := by kernel_rfl
theorem wordsSigns_ne (l : List Char) : wordsSigns l ≠ [] := by
  induction l with
  | nil => exact List.cons_ne_nil _ _
  | cons c r ih =>
    unfold wordsSigns
    split
    · exact List.cons_ne_nil _ _
    · exact List.cons_ne_nil _ _
    · split
      · exact List.cons_ne_nil _ _
      · exact List.cons_ne_nil _ _
theorem wordsSigns_app (a b : List Char) : wordsSigns (a ++ Char.ofNat 32 :: b) = wordsSigns a ++ wordsSigns b := by
  induction a with
  | nil => rfl
  | cons c r ih =>
    by_cases h : c = Char.ofNat 32
    · subst h
      show [] :: wordsSigns (r ++ Char.ofNat 32 :: b) = _
      rw [ih]
      rfl
    · have e : ∀ l, wordsSigns (c :: l) = match wordsSigns l with | w :: ws => (c :: w) :: ws | [] => [[c]] := by
        intro l
        rw [wordsSigns]
        · rfl
        · exact h
      rw [List.cons_append, e, e, ih]
      cases hw : wordsSigns r with
      | nil => exact absurd hw (wordsSigns_ne r)
      | cons w ws => rfl
theorem fc_words : ∃ ws, wordsSigns Try.prog.initOrder.toList = wordsSigns (List.map Char.ofNat [104, 97, 114, 110, 101, 115, 115, 32, 56, 97, 48, 53, 56, 49, 56, 97, 102, 102, 55, 54, 55, 54, 100, 102, 49, 51, 99, 56, 56, 100, 49, 48, 49, 50, 56, 55, 48, 49, 55, 98, 49, 56, 56, 100, 57, 52, 52, 56, 56, 55, 49, 48, 53, 49, 55, 101, 57, 54, 53, 97, 52, 52, 102, 51, 54, 48, 97, 48, 51, 102, 49, 51, 32, 99, 117, 116]) ++ ws := by
  rw [fc_io, String.toList_ofList, wordsSigns_app]
  exact ⟨_, rfl⟩
theorem fc_cut : ∃ rest, behindMainWord (wordsSigns Try.prog.initOrder.toList) = "cut".toList :: rest := by
  obtain ⟨ws, h⟩ := fc_words
  rw [h]
  exact ⟨ws, by kernel_rfl⟩
theorem fc_strip (r : List (List Char)) : stripLifts liftWords ("cut".toList :: r) = ([], "cut".toList :: r) := by kernel_rfl
theorem fc_later : Try.prog.laysLater = false := by kernel_rfl
theorem fc_reflect : Try.prog.bearsReflect = false := by kernel_rfl
theorem fc_door : Try.prog.doorFits [] = true := by kernel_rfl
theorem fc_n1 : ("cut".toList == "gc".toList) = false := by kernel_rfl
theorem fc_n2 : ("cut".toList == "spec".toList) = false := by kernel_rfl
theorem fc_n3 : ("cut".toList == "carried".toList) = false := by kernel_rfl
theorem fc_n4 : (some "cut".toList == some "cut".toList) = true := by kernel_rfl
theorem fc_n5 : ("cut".toList == "cut".toList) = true := by kernel_rfl
theorem fc_mayEnter : Try.prog.mayEnter = true := by
  obtain ⟨r, h⟩ := fc_cut
  unfold Program.mayEnter
  rw [h]
  simp only [fc_strip, fc_n1, fc_n2, fc_n3, fc_n4, fc_later, fc_reflect, fc_door, List.head?_cons, Bool.or_false, Bool.false_and, Bool.not_false, Bool.true_and, Bool.or_true, Bool.and_true, Bool.false_or, Bool.and_self, Bool.or_self]
  rfl
theorem fc_lifts : Try.prog.liftsFinal = false := by
  obtain ⟨r, h⟩ := fc_cut
  unfold Program.liftsFinal Program.headLifts
  rw [h]
  kernel_rfl
theorem fc_make : Try.prog.make = some .cut := by
  obtain ⟨r, h⟩ := fc_cut
  unfold Program.make
  rw [h]
  simp only [fc_n1, fc_n2, fc_n5, Bool.or_self, Bool.false_eq_true, if_false, Bool.true_or, if_true]
theorem fc_laidOut : laidOutB Try.prog = true := by kernel_rfl
theorem fc_mapsRowed : mapsRowed Try.prog = true := by kernel_rfl
theorem fc_stops : (Try.prog.stops == []) = true := by kernel_rfl
theorem fc_stopKnobs : (Try.prog.stopKnobs == []) = true := by kernel_rfl
theorem fc_heard : Try.prog.stopsHeard = true := by kernel_rfl
end Go.Proofs.Ytbkhnlacabaagaa
