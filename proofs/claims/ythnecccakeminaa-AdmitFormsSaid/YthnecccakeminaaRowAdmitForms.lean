/- Of the configuration that the statements try, only the first part's first task has a response: any other part or task is none and is said to be none; a first window that ends too soon makes the task late, and so does no window at all; a low part with no window of its own has nothing. -/
import Derived.Test.YthnecccakeminaaLaw9c
import Derived.Test.YthnecccakeminaaOpen
import Derived.Test.YthnecccakeminaaFacts
set_option linter.unusedVariables false
set_option linter.unusedSimpArgs false
namespace Go.Proofs.Ythnecccakeminaa
open Go.ChangeShapes Go.WideShapes Go.ChangeAt Go.RowKit
set_option maxRecDepth 100000 in
theorem admitForms_lifted (os : Os) (started : os.Started) (H : Type) (enc : TypeId × Value → H) :
    ReturnsInHanded {} Try.checked os 7 .any (Rows.admitFormsSpec.pre6 enc Try.prog Try.f7 Rows.admitFormsRow.domain false) (Rows.admitFormsSpec.post enc Try.prog Try.f7 false true false false) := by
  refine returnsInHanded_of_change_sized (C := Try.checked) own started (by kernel_rfl) Try.func7
    (ChangeSpec.witness6 (enc := enc) (C := Try.checked) false ⟨#[], #[.int .i64 0, .int .i64 0], []⟩ 8 (by kernel_rfl) (by kernel_rfl) (by kernel_rfl) (by kernel_rfl)) ?_
  intro W base args ds gs before hval0 hW hcnd hsz0 _
  have hsz : (DataW.weightsEach Try.prog (Try.f7.params.toList ++ Rows.admitFormsSpec.plain.varTypes Try.prog) (ds ++ gs)).all (· ≤ reachBytes) = true := hsz0
  have hval : ∀ (j : Nat) t v, Try.f7.params[j]? = some t → args[j]? = some v → Value.okWide Try.prog W .any base t v := hval0
  have hW' := hW
  obtain ⟨p, q, hA0, hV, rfl, hfz, hnd⟩ := hW
  have hA : DataW.TrodAll enc Try.prog W 0 (fun _ => true) true Try.f7.params.toList args.toList ds p := hA0
  rw [Try.params7] at hA hval hsz
  obtain ⟨v0, vs0, d0, ds0, p0, q0, hargs, rfl, rfl, h0, r0⟩ := trodAll_cons hA
  obtain ⟨v1, vs1, d1, ds1, p1, q1, rfl, rfl, rfl, h1, r1⟩ := trodAll_cons r0
  obtain ⟨rfl, rfl, rfl⟩ := trodAll_nil r1
  obtain rfl : args = #[v0, v1] := by cases args; simp_all
  obtain ⟨rfl, rfl⟩ := trodVars_none hV
  obtain ⟨a0, rfl, rfl, rfl, w0⟩ := open_int Try.underlying3 (hval 0 3 v0 rfl rfl) h0
  obtain ⟨a1, rfl, rfl, rfl, w1⟩ := open_int Try.underlying3 (hval 1 3 v1 rfl rfl) h1
  clear hA0 hval0 hsz0 hsz
  refine (admitForms_any a0 a1 W ).mono fun e W' ⟨he, bel⟩ => ?_
  subst he
  exact ⟨_, rfl, _, _, _, [], _, [], hW', trodAll_mk1 (shut_bool Try.underlying4 _), trodAll_mk2 (shut_int Try.underlying3 w0) (shut_int Try.underlying3 w1), rfl, bel.frame _, fun h => by cases h⟩
theorem admitForms_named : Try.checked.prog.funcNamed Rows.admitFormsRow.func = some 7 := by kernel_rfl
theorem admitForms_wf : Rows.admitFormsRow.wf (OpenSpec.ofChange Rows.admitFormsSpec) = true := by kernel_rfl
theorem admitForms_inPlace : (Rows.admitFormsRow.inPlace == Try.checked.prog.inPlace 7) = true := by kernel_rfl
theorem admitForms_unf : (Rows.admitFormsRow.unfollowed == Try.checked.prog.unfollowed 7) = true := by kernel_rfl
theorem admitForms_rec : (Rows.admitFormsRow.recurses == Try.checked.prog.recurses 7) = true := by kernel_rfl
theorem admitForms_nam : (Rows.admitFormsRow.named == Try.checked.prog.varsNamed 7) = true := by kernel_rfl
theorem admitForms_pk : (Rows.admitFormsRow.plainKeys == Try.checked.prog.plainKeys) = true := by kernel_rfl
theorem admitForms_tie : namedTie Try.checked.prog Rows.admitFormsRow.named Rows.admitFormsSpec.vars = true := by kernel_rfl
theorem admitForms_par : Try.f7.params.all (Try.checked.prog.readableRec ·) = true := by kernel_rfl
theorem admitForms_facts : joinedFacts Try.checked.prog 7 Try.f7 Rows.admitFormsSpec Rows.admitFormsRow = true := by
  have a1 := admitForms_wf
  have hl : (Rows.admitFormsRow.lifted == Try.checked.prog.liftsFinal) = true := by rw [show Try.checked.prog.liftsFinal = false from fc_lifts]; rfl
  have hm : (Try.checked.prog.make == some Rows.admitFormsRow.make) = true := by rw [show Try.checked.prog.make = some Make.cut from fc_make]; rfl
  unfold joinedFacts
  rw [admitForms_wf, admitForms_inPlace, admitForms_unf, admitForms_rec, admitForms_nam, admitForms_pk, admitForms_tie, admitForms_par, show laidOutB Try.checked.prog = true from fc_laidOut, show mapsRowed Try.checked.prog = true from fc_mapsRowed, show (Try.checked.prog.stops == []) = true from fc_stops, show (Try.checked.prog.stopKnobs == []) = true from fc_stopKnobs, show Try.checked.prog.stopsHeard = true from fc_heard, show Try.checked.prog.mayEnter = true from fc_mayEnter, hl, hm]
  show (_ : Bool) = true
  kernel_rfl
theorem admitForms_holds : Rows.AdmitFormsSaid :=
  OpenClaim.holds_of_wide 7 Try.f7 rfl rfl rfl rfl rfl rfl rfl ⟨rfl, rfl, rfl, rfl, rfl⟩ rfl rfl rfl rfl rfl admitForms_named Try.func7 admitForms_facts
    (of_decide_eq_true (by kernel_rfl)) (by unfold Func.isWrapper; first | (rw [if_pos (by decide +kernel)]; kernel_rfl) | (rw [if_neg (by decide +kernel)]; exact ⟨rfl, rfl⟩))
    (fun os started H enc _ => admitForms_lifted os started H enc)
end Go.Proofs.Ythnecccakeminaa
