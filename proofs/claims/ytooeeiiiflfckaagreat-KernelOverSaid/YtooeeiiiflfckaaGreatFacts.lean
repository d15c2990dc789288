/- Closed facts on the program, which every row of this seat asks. -/
import Derived.Test.YtooeeiiiflfckaaGreatChecked
import Derived.KernelRfl
import Derived.JoinedOf
import GoSem.ClaimOpen
import GoSem.ClaimOpenFrom
import GoSem.ClaimJoined
set_option linter.unusedVariables false
set_option linter.unusedSimpArgs false
namespace Go.Proofs.YtooeeiiiflfckaaGreat
open Go
theorem fc_io:Tryz.prog.initOrder=String.ofList (List.map Char.ofNat [104,97,114,110,101,115,115,32,52,99,51,52,50,50,54,57,98,50,48,52,100,101,50,48,101,52,50,101,99,53,100,48,55,98,51,101,52,52,100,48,49,56,55,55,53,100,101,56,55,101,102,49,50,56,99,100,50,48,52,54,53,56,53,51,54,56,48,54,50,97,54,49,32,99,117,116] ++ Char.ofNat 32::List.map Char.ofNat [97,116,32,110,111,99,116,117,114,110,47,110,111,99,116,117,114,110,108,97,119,50,50,46,75,101,114,110,101,108,73,110,84,105,109,101,32,110,111,99,116,117,114,110,47,110,111,99,116,117,114,110,108,97,119,50,50,46,75,101,114,110,101,108,67,108,111,99,107,32,110,111,99,116,117,114,110,47,110,111,99,116,117,114,110,108,97,119,50,50,46,75,101,114,110,101,108,78,111,111,112,115,32,110,111,99,116,117,114,110,47,110,111,99,116,117,114,110,108,97,119,50,50,46,75,101,114,110,101,108,68,101,97,108,115,32,110,111,99,116,117,114,110,47,110,111,99,116,117,114,110,108,97,119,50,50,46,75,101,114,110,101,108,70,97,117,108,116,115,32,110,111,99,116,117,114,110,47,110,111,99,116,117,114,110,108,97,119,50,50,46,75,101,114,110,101,108,73,110,112,117,116,115,32,110,111,99,116,117,114,110,47,110,111,99,116,117,114,110,108,97,119,50,50,46,75,101,114,110,101,108,79,118,101,114,32,110,111,99,116,117,114,110,47,110,111,99,116,117,114,110,108,97,119,50,50,46,75,101,114,110,101,108,66,97,99,107,32,110,111,99,116,117,114,110,47,110,111,99,116,117,114,110,108,97,119,50,50,46,75,101,114,110,101,108,83,104,97,114,101,115,32,110,111,99,116,117,114,110,47,110,111,99,116,117,114,110,108,97,119,50,50,46,75,101,114,110,101,108,84,119,111,32,110,111,99,116,117,114,110,47,110,111,99,116,117,114,110,108,97,119,50,50,46,75,101,114,110,101,108,83,104,105,102,116]):=by kernel_rfl
theorem wordsSigns_ne (l:List Char):wordsSigns l≠[]:=by
 induction l with
 | nil=>exact List.cons_ne_nil _ _
 | cons c r ih =>
  unfold wordsSigns
  split
  ·exact List.cons_ne_nil _ _
  ·exact List.cons_ne_nil _ _
  ·split
   ·exact List.cons_ne_nil _ _
   ·exact List.cons_ne_nil _ _
theorem wordsSigns_app (a b:List Char):wordsSigns (a ++ Char.ofNat 32::b)=wordsSigns a ++ wordsSigns b:=by
 induction a with
 | nil=>rfl
 | cons c r ih =>
  by_cases h:c=Char.ofNat 32
  ·subst h
   show []::wordsSigns (r ++ Char.ofNat 32::b)=_
   rw [ih]
   rfl
  ·have e:∀ l,wordsSigns (c::l)=match wordsSigns l with | w::ws=>(c::w)::ws | []=>[[c]]:=by
    intro l
    rw [wordsSigns]
    ·rfl
    ·exact h
   rw [List.cons_append,e,e,ih]
   cases hw:wordsSigns r with
   | nil=>exact absurd hw (wordsSigns_ne r)
   | cons w ws=>rfl
theorem fc_words:∃ ws,wordsSigns Tryz.prog.initOrder.toList=wordsSigns (List.map Char.ofNat [104,97,114,110,101,115,115,32,52,99,51,52,50,50,54,57,98,50,48,52,100,101,50,48,101,52,50,101,99,53,100,48,55,98,51,101,52,52,100,48,49,56,55,55,53,100,101,56,55,101,102,49,50,56,99,100,50,48,52,54,53,56,53,51,54,56,48,54,50,97,54,49,32,99,117,116]) ++ ws:=by
 rw [fc_io,String.toList_ofList,wordsSigns_app]
 exact ⟨_,rfl⟩
theorem fc_cut : ∃ rest, behindMainWord (wordsSigns Tryz.prog.initOrder.toList) = "cut".toList :: rest := by
 obtain ⟨ws,h⟩:=fc_words
 rw [h]
 exact ⟨ws,by kernel_rfl⟩
theorem fc_strip (r : List (List Char)) : stripLifts liftWords ("cut".toList :: r) = ([], "cut".toList :: r) := by kernel_rfl
theorem fc_later:Tryz.prog.laysLater=false:=by kernel_rfl
theorem fc_reflect:Tryz.prog.bearsReflect=false:=by kernel_rfl
theorem fc_door:Tryz.prog.doorFits []=true:=by kernel_rfl
theorem fc_n1 : ("cut".toList == "gc".toList) = false := by kernel_rfl
theorem fc_n2 : ("cut".toList == "spec".toList) = false := by kernel_rfl
theorem fc_n3 : ("cut".toList == "carried".toList) = false := by kernel_rfl
theorem fc_n4 : (some "cut".toList == some "cut".toList) = true := by kernel_rfl
theorem fc_n5 : ("cut".toList == "cut".toList) = true := by kernel_rfl
theorem fc_mayEnter:Tryz.prog.mayEnter=true:=by
 obtain ⟨r,h⟩:=fc_cut
 unfold Program.mayEnter
 rw [h]
 simp only [fc_strip,fc_n1,fc_n2,fc_n3,fc_n4,fc_later,fc_reflect,fc_door,List.head?_cons,Bool.or_false,Bool.false_and,Bool.not_false,Bool.true_and,Bool.or_true,Bool.and_true,Bool.false_or,Bool.and_self,Bool.or_self]
 rfl
theorem fc_lifts:Tryz.prog.liftsFinal=false:=by
 obtain ⟨r,h⟩:=fc_cut
 unfold Program.liftsFinal Program.headLifts
 rw [h]
 kernel_rfl
theorem fc_make:Tryz.prog.make=some .cut:=by
 obtain ⟨r,h⟩:=fc_cut
 unfold Program.make
 rw [h]
 simp only [fc_n1,fc_n2,fc_n5,Bool.or_self,Bool.false_eq_true,if_false,Bool.true_or,if_true]
theorem fc_laidOut:laidOutB Tryz.prog=true:=by kernel_rfl
theorem fc_mapsRowed:mapsRowed Tryz.prog=true:=by kernel_rfl
theorem fc_stops:(Tryz.prog.stops == [])=true:=by kernel_rfl
theorem fc_stopKnobs:(Tryz.prog.stopKnobs == [])=true:=by kernel_rfl
theorem fc_heard:Tryz.prog.stopsHeard=true:=by kernel_rfl
end Go.Proofs.YtooeeiiiflfckaaGreat
