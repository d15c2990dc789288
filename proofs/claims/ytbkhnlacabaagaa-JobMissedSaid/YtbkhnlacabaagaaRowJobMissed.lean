/- JobMissed: a job that is not run is missed just at its deadline. -/
import Derived.Test.YtbkhnlacabaagaaLaw14d
import Derived.Test.YtbkhnlacabaagaaOpen
import Derived.Test.YtbkhnlacabaagaaFacts
set_option linter.unusedVariables false
set_option linter.unusedSimpArgs false
namespace Go.Proofs.Ytbkhnlacabaagaa
open Go.ChangeShapes Go.WideShapes Go.ChangeAt Go.RowKit
set_option maxRecDepth 100000 in
theorem jobMissed_lifted (os : Os) (started : os.Started) (H : Type) (enc : TypeId × Value → H) :
    ReturnsInHanded {} Try.checked os 6 .any (Rows.jobMissedSpec.pre6 enc Try.prog Try.f6 Rows.jobMissedRow.domain false) (Rows.jobMissedSpec.post enc Try.prog Try.f6 false true false false) := by
  refine returnsInHanded_of_change_sized (C := Try.checked) own started (by kernel_rfl) Try.func6
    (ChangeSpec.witness6 (enc := enc) (C := Try.checked) false ⟨#[], #[.int .i64 0, .int .i64 0, .int .i64 0, .int .i64 0], []⟩ 8 (by kernel_rfl) (by kernel_rfl) (by kernel_rfl) (by kernel_rfl)) ?_
  intro W base args ds gs before hval0 hW hcnd hsz0 _
  have hsz : (DataW.weightsEach Try.prog (Try.f6.params.toList ++ Rows.jobMissedSpec.plain.varTypes Try.prog) (ds ++ gs)).all (· ≤ reachBytes) = true := hsz0
  have hval : ∀ (j : Nat) t v, Try.f6.params[j]? = some t → args[j]? = some v → Value.okWide Try.prog W .any base t v := hval0
  have hW' := hW
  obtain ⟨p, q, hA0, hV, rfl, hfz, hnd⟩ := hW
  have hA : DataW.TrodAll enc Try.prog W 0 (fun _ => true) true Try.f6.params.toList args.toList ds p := hA0
  rw [Try.params6] at hA hval hsz
  obtain ⟨v0, vs0, d0, ds0, p0, q0, hargs, rfl, rfl, h0, r0⟩ := trodAll_cons hA
  obtain ⟨v1, vs1, d1, ds1, p1, q1, rfl, rfl, rfl, h1, r1⟩ := trodAll_cons r0
  obtain ⟨v2, vs2, d2, ds2, p2, q2, rfl, rfl, rfl, h2, r2⟩ := trodAll_cons r1
  obtain ⟨v3, vs3, d3, ds3, p3, q3, rfl, rfl, rfl, h3, r3⟩ := trodAll_cons r2
  obtain ⟨rfl, rfl, rfl⟩ := trodAll_nil r3
  obtain rfl : args = #[v0, v1, v2, v3] := by cases args; simp_all
  obtain ⟨rfl, rfl⟩ := trodVars_none hV
  obtain ⟨a0, rfl, rfl, rfl, w0⟩ := open_int Try.underlying3 (hval 0 3 v0 rfl rfl) h0
  obtain ⟨a1, rfl, rfl, rfl, w1⟩ := open_int Try.underlying3 (hval 1 3 v1 rfl rfl) h1
  obtain ⟨a2, rfl, rfl, rfl, w2⟩ := open_int Try.underlying3 (hval 2 3 v2 rfl rfl) h2
  obtain ⟨a3, rfl, rfl, rfl, w3⟩ := open_int Try.underlying3 (hval 3 3 v3 rfl rfl) h3
  clear hA0 hval0 hsz0 hsz
  refine (jobMissed_any a0 a1 a2 a3 W ).mono fun e W' ⟨he, bel⟩ => ?_
  subst he
  exact ⟨_, rfl, _, _, _, [], _, [], hW', trodAll_mk1 (shut_bool Try.underlying4 _), ⟨_, _, (shut_int Try.underlying3 w0), ⟨_, _, (shut_int Try.underlying3 w1), ⟨_, _, (shut_int Try.underlying3 w2), ⟨_, _, (shut_int Try.underlying3 w3), rfl, rfl⟩, rfl⟩, rfl⟩, rfl⟩, rfl, bel.frame _, fun h => by cases h⟩
theorem jobMissed_named : Try.checked.prog.funcNamed Rows.jobMissedRow.func = some 6 := by kernel_rfl
theorem jobMissed_wf : Rows.jobMissedRow.wf (OpenSpec.ofChange Rows.jobMissedSpec) = true := by kernel_rfl
theorem jobMissed_inPlace : (Rows.jobMissedRow.inPlace == Try.checked.prog.inPlace 6) = true := by kernel_rfl
theorem jobMissed_unf : (Rows.jobMissedRow.unfollowed == Try.checked.prog.unfollowed 6) = true := by kernel_rfl
theorem jobMissed_rec : (Rows.jobMissedRow.recurses == Try.checked.prog.recurses 6) = true := by kernel_rfl
theorem jobMissed_nam : (Rows.jobMissedRow.named == Try.checked.prog.varsNamed 6) = true := by kernel_rfl
theorem jobMissed_pk : (Rows.jobMissedRow.plainKeys == Try.checked.prog.plainKeys) = true := by kernel_rfl
theorem jobMissed_tie : namedTie Try.checked.prog Rows.jobMissedRow.named Rows.jobMissedSpec.vars = true := by kernel_rfl
theorem jobMissed_par : Try.f6.params.all (Try.checked.prog.readableRec ·) = true := by kernel_rfl
theorem jobMissed_facts : joinedFacts Try.checked.prog 6 Try.f6 Rows.jobMissedSpec Rows.jobMissedRow = true := by
  have a1 := jobMissed_wf
  have hl : (Rows.jobMissedRow.lifted == Try.checked.prog.liftsFinal) = true := by rw [show Try.checked.prog.liftsFinal = false from fc_lifts]; rfl
  have hm : (Try.checked.prog.make == some Rows.jobMissedRow.make) = true := by rw [show Try.checked.prog.make = some Make.cut from fc_make]; rfl
  unfold joinedFacts
  rw [jobMissed_wf, jobMissed_inPlace, jobMissed_unf, jobMissed_rec, jobMissed_nam, jobMissed_pk, jobMissed_tie, jobMissed_par, show laidOutB Try.checked.prog = true from fc_laidOut, show mapsRowed Try.checked.prog = true from fc_mapsRowed, show (Try.checked.prog.stops == []) = true from fc_stops, show (Try.checked.prog.stopKnobs == []) = true from fc_stopKnobs, show Try.checked.prog.stopsHeard = true from fc_heard, show Try.checked.prog.mayEnter = true from fc_mayEnter, hl, hm]
  show (_ : Bool) = true
  kernel_rfl
theorem jobMissed_holds : Rows.JobMissedSaid :=
  OpenClaim.holds_of_wide 6 Try.f6 rfl rfl rfl rfl rfl rfl rfl ⟨rfl, rfl, rfl, rfl, rfl⟩ rfl rfl rfl rfl rfl jobMissed_named Try.func6 jobMissed_facts
    (of_decide_eq_true (by kernel_rfl)) (by unfold Func.isWrapper; first | (rw [if_pos (by decide +kernel)]; kernel_rfl) | (rw [if_neg (by decide +kernel)]; exact ⟨rfl, rfl⟩))
    (fun os started H enc _ => jobMissed_lifted os started H enc)
end Go.Proofs.Ytbkhnlacabaagaa
