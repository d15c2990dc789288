/- JobOrder: of several tasks the one of the least Prio runs first, whoever came first. -/
import Derived.Test.YtbkhnlacabaagaaLaw14g
import Derived.Test.YtbkhnlacabaagaaOpenI
import Derived.Test.YtbkhnlacabaagaaFacts
set_option linter.unusedVariables false
set_option linter.unusedSimpArgs false
namespace Go.Proofs.Ytbkhnlacabaagaa
open Go.ChangeShapes Go.WideShapes Go.ChangeAt Go.RowKit
set_option maxRecDepth 100000 in
theorem jobOrder_lifted (os : Os) (started : os.Started) (H : Type) (enc : TypeId × Value → H) :
    ReturnsInHanded {} Try.checked os 4 .any (Rows.jobOrderSpec.pre6 enc Try.prog Try.f4 Rows.jobOrderRow.domain false) (Rows.jobOrderSpec.post enc Try.prog Try.f4 false true false false) := by
  refine returnsInHanded_of_change_sized (C := Try.checked) own started (by kernel_rfl) Try.func4
    (ChangeSpec.witness6 (enc := enc) (C := Try.checked) false ⟨#[], #[.slice none 0 0, .int .i64 0], []⟩ 8 (by kernel_rfl) (by kernel_rfl) (by kernel_rfl) (by kernel_rfl)) ?_
  intro W base args ds gs before hval0 hW hcnd hsz0 _
  have hsz : (DataW.weightsEach Try.prog (Try.f4.params.toList ++ Rows.jobOrderSpec.plain.varTypes Try.prog) (ds ++ gs)).all (· ≤ reachBytes) = true := hsz0
  have hval : ∀ (j : Nat) t v, Try.f4.params[j]? = some t → args[j]? = some v → Value.okWide Try.prog W .any base t v := hval0
  have hW' := hW
  obtain ⟨p, q, hA0, hV, rfl, hfz, hnd⟩ := hW
  have hA : DataW.TrodAll enc Try.prog W 0 (fun _ => true) true Try.f4.params.toList args.toList ds p := hA0
  rw [Try.params4] at hA hval hsz
  obtain ⟨v0, vs0, d0, ds0, p0, q0, hargs, rfl, rfl, h0, r0⟩ := trodAll_cons hA
  obtain ⟨v1, vs1, d1, ds1, p1, q1, rfl, rfl, rfl, h1, r1⟩ := trodAll_cons r0
  obtain ⟨rfl, rfl, rfl⟩ := trodAll_nil r1
  obtain rfl : args = #[v0, v1] := by cases args; simp_all
  obtain ⟨rfl, rfl⟩ := trodVars_none hV
  have k0 := h0
  have lt0 : ∀ x ∈ p0, x.block < W.heap.size := by obtain ⟨m, hm⟩ := k0; exact DataW.trod_lt m _ _ _ hm
  obtain ⟨c0, hc0⟩ := open_intsV (hval 0 26 v0 rfl rfl) h0 (weights_each hsz (j := 0) rfl rfl)
  obtain ⟨a1, rfl, rfl, rfl, w1⟩ := open_int Try.underlying3 (hval 1 3 v1 rfl rfl) h1
  clear hA0 hval0 hsz0 hsz
  refine (jobOrder_any c0 v0 a1 W hc0).mono fun e W' ⟨he, bel⟩ => ?_
  subst he
  exact ⟨_, rfl, _, _, _, [], _, [], hW', trodAll_mk1 (shut_bool Try.underlying4 _), trodAll_mk2 (Below.trod laidOut (by kernel_rfl) (of_decide_eq_true (by kernel_rfl)) k0 bel lt0) (shut_int Try.underlying3 w1), rfl, bel.frame _, fun h => by cases h⟩
theorem jobOrder_named : Try.checked.prog.funcNamed Rows.jobOrderRow.func = some 4 := by kernel_rfl
theorem jobOrder_wf : Rows.jobOrderRow.wf (OpenSpec.ofChange Rows.jobOrderSpec) = true := by kernel_rfl
theorem jobOrder_inPlace : (Rows.jobOrderRow.inPlace == Try.checked.prog.inPlace 4) = true := by kernel_rfl
theorem jobOrder_unf : (Rows.jobOrderRow.unfollowed == Try.checked.prog.unfollowed 4) = true := by kernel_rfl
theorem jobOrder_rec : (Rows.jobOrderRow.recurses == Try.checked.prog.recurses 4) = true := by kernel_rfl
theorem jobOrder_nam : (Rows.jobOrderRow.named == Try.checked.prog.varsNamed 4) = true := by kernel_rfl
theorem jobOrder_pk : (Rows.jobOrderRow.plainKeys == Try.checked.prog.plainKeys) = true := by kernel_rfl
theorem jobOrder_tie : namedTie Try.checked.prog Rows.jobOrderRow.named Rows.jobOrderSpec.vars = true := by kernel_rfl
theorem jobOrder_par : Try.f4.params.all (Try.checked.prog.readableRec ·) = true := by kernel_rfl
theorem jobOrder_facts : joinedFacts Try.checked.prog 4 Try.f4 Rows.jobOrderSpec Rows.jobOrderRow = true := by
  have a1 := jobOrder_wf
  have hl : (Rows.jobOrderRow.lifted == Try.checked.prog.liftsFinal) = true := by rw [show Try.checked.prog.liftsFinal = false from fc_lifts]; rfl
  have hm : (Try.checked.prog.make == some Rows.jobOrderRow.make) = true := by rw [show Try.checked.prog.make = some Make.cut from fc_make]; rfl
  unfold joinedFacts
  rw [jobOrder_wf, jobOrder_inPlace, jobOrder_unf, jobOrder_rec, jobOrder_nam, jobOrder_pk, jobOrder_tie, jobOrder_par, show laidOutB Try.checked.prog = true from fc_laidOut, show mapsRowed Try.checked.prog = true from fc_mapsRowed, show (Try.checked.prog.stops == []) = true from fc_stops, show (Try.checked.prog.stopKnobs == []) = true from fc_stopKnobs, show Try.checked.prog.stopsHeard = true from fc_heard, show Try.checked.prog.mayEnter = true from fc_mayEnter, hl, hm]
  show (_ : Bool) = true
  kernel_rfl
theorem jobOrder_holds : Rows.JobOrderSaid :=
  OpenClaim.holds_of_wide 4 Try.f4 rfl rfl rfl rfl rfl rfl rfl ⟨rfl, rfl, rfl, rfl, rfl⟩ rfl rfl rfl rfl rfl jobOrder_named Try.func4 jobOrder_facts
    (of_decide_eq_true (by kernel_rfl)) (by unfold Func.isWrapper; first | (rw [if_pos (by decide +kernel)]; kernel_rfl) | (rw [if_neg (by decide +kernel)]; exact ⟨rfl, rfl⟩))
    (fun os started H enc _ => jobOrder_lifted os started H enc)
end Go.Proofs.Ytbkhnlacabaagaa
