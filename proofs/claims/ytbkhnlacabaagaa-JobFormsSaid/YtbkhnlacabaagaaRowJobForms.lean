/- JobForms: parts, tasks, demands and ticks that are none are refused, each with its error. -/
import Derived.Test.YtbkhnlacabaagaaLaw14b
import Derived.Test.YtbkhnlacabaagaaOpen
import Derived.Test.YtbkhnlacabaagaaFacts
set_option linter.unusedVariables false
set_option linter.unusedSimpArgs false
namespace Go.Proofs.Ytbkhnlacabaagaa
open Go.ChangeShapes Go.WideShapes Go.ChangeAt Go.RowKit
set_option maxRecDepth 100000 in
theorem jobForms_lifted (os : Os) (started : os.Started) (H : Type) (enc : TypeId × Value → H) :
    ReturnsInHanded {} Try.checked os 5 .any (Rows.jobFormsSpec.pre6 enc Try.prog Try.f5 Rows.jobFormsRow.domain false) (Rows.jobFormsSpec.post enc Try.prog Try.f5 false true false false) := by
  refine returnsInHanded_of_change_sized (C := Try.checked) own started (by kernel_rfl) Try.func5
    (ChangeSpec.witness6 (enc := enc) (C := Try.checked) false ⟨#[], #[.int .i64 0, .int .i64 0], []⟩ 8 (by kernel_rfl) (by kernel_rfl) (by kernel_rfl) (by kernel_rfl)) ?_
  intro W base args ds gs before hval0 hW hcnd hsz0 _
  have hsz : (DataW.weightsEach Try.prog (Try.f5.params.toList ++ Rows.jobFormsSpec.plain.varTypes Try.prog) (ds ++ gs)).all (· ≤ reachBytes) = true := hsz0
  have hval : ∀ (j : Nat) t v, Try.f5.params[j]? = some t → args[j]? = some v → Value.okWide Try.prog W .any base t v := hval0
  have hW' := hW
  obtain ⟨p, q, hA0, hV, rfl, hfz, hnd⟩ := hW
  have hA : DataW.TrodAll enc Try.prog W 0 (fun _ => true) true Try.f5.params.toList args.toList ds p := hA0
  rw [Try.params5] at hA hval hsz
  obtain ⟨v0, vs0, d0, ds0, p0, q0, hargs, rfl, rfl, h0, r0⟩ := trodAll_cons hA
  obtain ⟨v1, vs1, d1, ds1, p1, q1, rfl, rfl, rfl, h1, r1⟩ := trodAll_cons r0
  obtain ⟨rfl, rfl, rfl⟩ := trodAll_nil r1
  obtain rfl : args = #[v0, v1] := by cases args; simp_all
  obtain ⟨rfl, rfl⟩ := trodVars_none hV
  obtain ⟨a0, rfl, rfl, rfl, w0⟩ := open_int Try.underlying3 (hval 0 3 v0 rfl rfl) h0
  obtain ⟨a1, rfl, rfl, rfl, w1⟩ := open_int Try.underlying3 (hval 1 3 v1 rfl rfl) h1
  clear hA0 hval0 hsz0 hsz
  refine (jobForms_any a0 a1 W ).mono fun e W' ⟨he, bel⟩ => ?_
  subst he
  exact ⟨_, rfl, _, _, _, [], _, [], hW', trodAll_mk1 (shut_bool Try.underlying4 _), trodAll_mk2 (shut_int Try.underlying3 w0) (shut_int Try.underlying3 w1), rfl, bel.frame _, fun h => by cases h⟩
theorem jobForms_named : Try.checked.prog.funcNamed Rows.jobFormsRow.func = some 5 := by kernel_rfl
theorem jobForms_wf : Rows.jobFormsRow.wf (OpenSpec.ofChange Rows.jobFormsSpec) = true := by kernel_rfl
theorem jobForms_inPlace : (Rows.jobFormsRow.inPlace == Try.checked.prog.inPlace 5) = true := by kernel_rfl
theorem jobForms_unf : (Rows.jobFormsRow.unfollowed == Try.checked.prog.unfollowed 5) = true := by kernel_rfl
theorem jobForms_rec : (Rows.jobFormsRow.recurses == Try.checked.prog.recurses 5) = true := by kernel_rfl
theorem jobForms_nam : (Rows.jobFormsRow.named == Try.checked.prog.varsNamed 5) = true := by kernel_rfl
theorem jobForms_pk : (Rows.jobFormsRow.plainKeys == Try.checked.prog.plainKeys) = true := by kernel_rfl
theorem jobForms_tie : namedTie Try.checked.prog Rows.jobFormsRow.named Rows.jobFormsSpec.vars = true := by kernel_rfl
theorem jobForms_par : Try.f5.params.all (Try.checked.prog.readableRec ·) = true := by kernel_rfl
theorem jobForms_facts : joinedFacts Try.checked.prog 5 Try.f5 Rows.jobFormsSpec Rows.jobFormsRow = true := by
  have a1 := jobForms_wf
  have hl : (Rows.jobFormsRow.lifted == Try.checked.prog.liftsFinal) = true := by rw [show Try.checked.prog.liftsFinal = false from fc_lifts]; rfl
  have hm : (Try.checked.prog.make == some Rows.jobFormsRow.make) = true := by rw [show Try.checked.prog.make = some Make.cut from fc_make]; rfl
  unfold joinedFacts
  rw [jobForms_wf, jobForms_inPlace, jobForms_unf, jobForms_rec, jobForms_nam, jobForms_pk, jobForms_tie, jobForms_par, show laidOutB Try.checked.prog = true from fc_laidOut, show mapsRowed Try.checked.prog = true from fc_mapsRowed, show (Try.checked.prog.stops == []) = true from fc_stops, show (Try.checked.prog.stopKnobs == []) = true from fc_stopKnobs, show Try.checked.prog.stopsHeard = true from fc_heard, show Try.checked.prog.mayEnter = true from fc_mayEnter, hl, hm]
  show (_ : Bool) = true
  kernel_rfl
theorem jobForms_holds : Rows.JobFormsSaid :=
  OpenClaim.holds_of_wide 5 Try.f5 rfl rfl rfl rfl rfl rfl rfl ⟨rfl, rfl, rfl, rfl, rfl⟩ rfl rfl rfl rfl rfl jobForms_named Try.func5 jobForms_facts
    (of_decide_eq_true (by kernel_rfl)) (by unfold Func.isWrapper; first | (rw [if_pos (by decide +kernel)]; kernel_rfl) | (rw [if_neg (by decide +kernel)]; exact ⟨rfl, rfl⟩))
    (fun os started H enc _ => jobForms_lifted os started H enc)
end Go.Proofs.Ytbkhnlacabaagaa
