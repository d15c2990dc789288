/- KernelDeals holds of every pair of numbers, whatever the world: a high part without jobs leaves its windows to the low ones in turn, and takes them back at the tick at which its job comes. -/
import Derived.Test.YtooeeiiiflfckaaGreatLaw22c
import Derived.Test.YtooeeiiiflfckaaGreatOpen
import Derived.Test.YtooeeiiiflfckaaGreatFacts
set_option linter.unusedVariables false
set_option linter.unusedSimpArgs false
namespace Go.Proofs.YtooeeiiiflfckaaGreat
open Go.ChangeShapes Go.WideShapes Go.ChangeAt Go.RowKit
set_option maxRecDepth 100000 in
theorem kernelDeals_lifted (os : Os) (started : os.Started) (H : Type) (enc : TypeId × Value -> H) :
  ReturnsInHanded {} Tryz.checked os 6 .any (Rows.kernelDealsSpec.pre6 enc Tryz.prog Tryz.f6 Rows.kernelDealsRow.domain false) (Rows.kernelDealsSpec.post enc Tryz.prog Tryz.f6 false true false false) := by
 refine returnsInHanded_of_change_sized (C := Tryz.checked) own started (by kernel_rfl) Tryz.func6
  (ChangeSpec.witness6 (enc := enc) (C := Tryz.checked) false ⟨#[], #[.int .i64 0, .int .i64 0], []⟩ 8 (by kernel_rfl) (by kernel_rfl) (by kernel_rfl) (by kernel_rfl)) ?_
 intro W base args ds gs before hval0 hW hcnd hsz0 _
 have hsz : (DataW.weightsEach Tryz.prog (Tryz.f6.params.toList ++ Rows.kernelDealsSpec.plain.varTypes Tryz.prog) (ds ++ gs)).all (· <= reachBytes) = true := hsz0
 have hval : ∀ (j : Nat) t v, Tryz.f6.params[j]? = some t -> args[j]? = some v -> Value.okWide Tryz.prog W .any base t v := hval0
 have hW' := hW
 obtain ⟨p, q, hA0, hV, rfl, hfz, hnd⟩ := hW
 have hA : DataW.TrodAll enc Tryz.prog W 0 (fun _ => true) true Tryz.f6.params.toList args.toList ds p := hA0
 rw [Tryz.params6] at hA hval hsz
 obtain ⟨v0, vs0, d0, ds0, p0, q0, hargs, rfl, rfl, h0, r0⟩ := trodAll_cons hA
 obtain ⟨v1, vs1, d1, ds1, p1, q1, rfl, rfl, rfl, h1, r1⟩ := trodAll_cons r0
 obtain ⟨rfl, rfl, rfl⟩ := trodAll_nil r1
 obtain rfl : args = #[v0, v1] := by cases args; simp_all
 obtain ⟨rfl, rfl⟩ := trodVars_none hV
 obtain ⟨a0, rfl, rfl, rfl, w0⟩ := open_int Tryz.underlying3 (hval 0 3 v0 rfl rfl) h0
 obtain ⟨a1, rfl, rfl, rfl, w1⟩ := open_int Tryz.underlying3 (hval 1 3 v1 rfl rfl) h1
 clear hA0 hval0 hsz0 hsz
 refine (kernelDeals_any a0 a1 W ).mono fun e W' ⟨he, bel⟩ => ?_
 subst he
 exact ⟨_, rfl, _, _, _, [], _, [], hW', trodAll_mk1 (shut_bool Tryz.underlying4 _), trodAll_mk2 (shut_int Tryz.underlying3 w0) (shut_int Tryz.underlying3 w1), rfl, bel.frame _, fun h => by cases h⟩
theorem kernelDeals_named : Tryz.checked.prog.funcNamed Rows.kernelDealsRow.func = some 6 := by kernel_rfl
theorem kernelDeals_wf : Rows.kernelDealsRow.wf (OpenSpec.ofChange Rows.kernelDealsSpec) = true := by kernel_rfl
theorem kernelDeals_inPlace : (Rows.kernelDealsRow.inPlace == Tryz.checked.prog.inPlace 6) = true := by kernel_rfl
theorem kernelDeals_unf : (Rows.kernelDealsRow.unfollowed == Tryz.checked.prog.unfollowed 6) = true := by kernel_rfl
theorem kernelDeals_rec : (Rows.kernelDealsRow.recurses == Tryz.checked.prog.recurses 6) = true := by kernel_rfl
theorem kernelDeals_nam : (Rows.kernelDealsRow.named == Tryz.checked.prog.varsNamed 6) = true := by kernel_rfl
theorem kernelDeals_pk : (Rows.kernelDealsRow.plainKeys == Tryz.checked.prog.plainKeys) = true := by kernel_rfl
theorem kernelDeals_tie : namedTie Tryz.checked.prog Rows.kernelDealsRow.named Rows.kernelDealsSpec.vars = true := by kernel_rfl
theorem kernelDeals_par : Tryz.f6.params.all (Tryz.checked.prog.readableRec ·) = true := by kernel_rfl
theorem kernelDeals_facts : joinedFacts Tryz.checked.prog 6 Tryz.f6 Rows.kernelDealsSpec Rows.kernelDealsRow = true := by
 have a1 := kernelDeals_wf
 have hl : (Rows.kernelDealsRow.lifted == Tryz.checked.prog.liftsFinal) = true := by rw [show Tryz.checked.prog.liftsFinal = false from fc_lifts]; rfl
 have hm : (Tryz.checked.prog.make == some Rows.kernelDealsRow.make) = true := by rw [show Tryz.checked.prog.make = some Make.cut from fc_make]; rfl
 unfold joinedFacts
 rw [kernelDeals_wf, kernelDeals_inPlace, kernelDeals_unf, kernelDeals_rec, kernelDeals_nam, kernelDeals_pk, kernelDeals_tie, kernelDeals_par, show laidOutB Tryz.checked.prog = true from fc_laidOut, show mapsRowed Tryz.checked.prog = true from fc_mapsRowed, show (Tryz.checked.prog.stops == []) = true from fc_stops, show (Tryz.checked.prog.stopKnobs == []) = true from fc_stopKnobs, show Tryz.checked.prog.stopsHeard = true from fc_heard, show Tryz.checked.prog.mayEnter = true from fc_mayEnter, hl, hm]
 show (_ : Bool) = true
 kernel_rfl
theorem kernelDeals_holds : Rows.KernelDealsSaid :=
 OpenClaim.holds_of_wide 6 Tryz.f6 rfl rfl rfl rfl rfl rfl rfl ⟨rfl, rfl, rfl, rfl, rfl⟩ rfl rfl rfl rfl rfl kernelDeals_named Tryz.func6 kernelDeals_facts
  (of_decide_eq_true (by kernel_rfl)) (by unfold Func.isWrapper; first | (rw [if_pos (by decide +kernel)]; kernel_rfl) | (rw [if_neg (by decide +kernel)]; exact ⟨rfl, rfl⟩))
  (fun os started H enc _ => kernelDeals_lifted os started H enc)
end Go.Proofs.YtooeeiiiflfckaaGreat
