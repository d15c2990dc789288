/- A job that is put stands behind all that go ahead of it and ahead of all others, and these stay, whatever the jobs and the job. -/
import Derived.Test.YtpjmceiegogobaaLaw12d
import Derived.Test.YtpjmceiegogobaaOpenJ
import Derived.Test.YtpjmceiegogobaaFacts
set_option linter.unusedVariables false
set_option linter.unusedSimpArgs false
namespace Go.Proofs.Ytpjmceiegogobaa
open Go.ChangeShapes Go.WideShapes Go.ChangeAt Go.RowKit
set_option maxRecDepth 100000 in
theorem readyPlace_lifted (os : Os) (started : os.Started) (H : Type) (enc : TypeId × Value → H) :
    ReturnsInHanded {} Try.checked os 7 .any (Rows.readyPlaceSpec.pre6 enc Try.prog Try.f7 Rows.readyPlaceRow.domain false) (Rows.readyPlaceSpec.post enc Try.prog Try.f7 false true false false) := by
  refine returnsInHanded_of_change_sized (C := Try.checked) own started (by kernel_rfl) Try.func7
    (ChangeSpec.witness6 (enc := enc) (C := Try.checked) false ⟨#[], #[.slice none 0 0, .agg #[.int .i64 0, .int .i64 0, .int .i64 0, .int .i64 0, .int .i64 0, .int .i64 0, .int .i64 0]], []⟩ 8 (by kernel_rfl) (by kernel_rfl) (by kernel_rfl) (by kernel_rfl)) ?_
  intro W base args ds gs before hval0 hW hcnd hsz0 _
  have hsz : (DataW.weightsEach Try.prog (Try.f7.params.toList ++ Rows.readyPlaceSpec.plain.varTypes Try.prog) (ds ++ gs)).all (· ≤ reachBytes) = true := hsz0
  have hval : ∀ (j : Nat) t v, Try.f7.params[j]? = some t → args[j]? = some v → Value.okWide Try.prog W .any base t v := hval0
  have hW' := hW
  obtain ⟨p, q, hA0, hV, rfl, hfz, hnd⟩ := hW
  have hA : DataW.TrodAll enc Try.prog W 0 (fun _ => true) true Try.f7.params.toList args.toList ds p := hA0
  rw [Try.params7] at hA hval hsz
  obtain ⟨v0, vs0, d0, ds0, p0, q0, hargs, rfl, rfl, h0, r0⟩ := trodAll_cons hA
  obtain ⟨v1, vs1, d1, ds1, p1, q1, rfl, rfl, rfl, h1, r1⟩ := trodAll_cons r0
  obtain ⟨rfl, rfl, rfl⟩ := trodAll_nil r1
  obtain rfl : args = #[v0, v1] := by cases args; simp_all
  obtain ⟨rfl, rfl⟩ := trodVars_none hV
  have k0 := h0
  have lt0 : ∀ x ∈ p0, x.block < W.heap.size := by obtain ⟨m, hm⟩ := k0; exact DataW.trod_lt m _ _ _ hm
  obtain ⟨c0, hc0⟩ := open_jobs (hval 0 22 v0 rfl rfl) h0 (weights_each hsz (j := 0) rfl rfl)
  have k1 := h1
  have lt1 : ∀ x ∈ p1, x.block < W.heap.size := by obtain ⟨m, hm⟩ := k1; exact DataW.trod_lt m _ _ _ hm
  obtain ⟨c1, hc1⟩ := open_job (hval 1 24 v1 rfl rfl) h1 (weights_each hsz (j := 1) rfl rfl)
  clear hA0 hval0 hsz0 hsz
  refine (readyPlace_any c0 v0 c1 v1 W hc0 hc1).mono fun e W' ⟨he, bel⟩ => ?_
  subst he
  exact ⟨_, rfl, _, _, _, [], _, [], hW', trodAll_mk1 (shut_bool Try.underlying4 _), trodAll_mk2 (Below.trod laidOut (by kernel_rfl) (of_decide_eq_true (by kernel_rfl)) k0 bel lt0) (Below.trod laidOut (by kernel_rfl) (of_decide_eq_true (by kernel_rfl)) k1 bel lt1), rfl, bel.frame _, fun h => by cases h⟩
theorem readyPlace_named : Try.checked.prog.funcNamed Rows.readyPlaceRow.func = some 7 := by kernel_rfl
theorem readyPlace_wf : Rows.readyPlaceRow.wf (OpenSpec.ofChange Rows.readyPlaceSpec) = true := by kernel_rfl
theorem readyPlace_inPlace : (Rows.readyPlaceRow.inPlace == Try.checked.prog.inPlace 7) = true := by kernel_rfl
theorem readyPlace_unf : (Rows.readyPlaceRow.unfollowed == Try.checked.prog.unfollowed 7) = true := by kernel_rfl
theorem readyPlace_rec : (Rows.readyPlaceRow.recurses == Try.checked.prog.recurses 7) = true := by kernel_rfl
theorem readyPlace_nam : (Rows.readyPlaceRow.named == Try.checked.prog.varsNamed 7) = true := by kernel_rfl
theorem readyPlace_pk : (Rows.readyPlaceRow.plainKeys == Try.checked.prog.plainKeys) = true := by kernel_rfl
theorem readyPlace_tie : namedTie Try.checked.prog Rows.readyPlaceRow.named Rows.readyPlaceSpec.vars = true := by kernel_rfl
theorem readyPlace_par : Try.f7.params.all (Try.checked.prog.readableRec ·) = true := by kernel_rfl
theorem readyPlace_facts : joinedFacts Try.checked.prog 7 Try.f7 Rows.readyPlaceSpec Rows.readyPlaceRow = true := by
  have a1 := readyPlace_wf
  have hl : (Rows.readyPlaceRow.lifted == Try.checked.prog.liftsFinal) = true := by rw [show Try.checked.prog.liftsFinal = false from fc_lifts]; rfl
  have hm : (Try.checked.prog.make == some Rows.readyPlaceRow.make) = true := by rw [show Try.checked.prog.make = some Make.cut from fc_make]; rfl
  unfold joinedFacts
  rw [readyPlace_wf, readyPlace_inPlace, readyPlace_unf, readyPlace_rec, readyPlace_nam, readyPlace_pk, readyPlace_tie, readyPlace_par, show laidOutB Try.checked.prog = true from fc_laidOut, show mapsRowed Try.checked.prog = true from fc_mapsRowed, show (Try.checked.prog.stops == []) = true from fc_stops, show (Try.checked.prog.stopKnobs == []) = true from fc_stopKnobs, show Try.checked.prog.stopsHeard = true from fc_heard, show Try.checked.prog.mayEnter = true from fc_mayEnter, hl, hm]
  show (_ : Bool) = true
  kernel_rfl
theorem readyPlace_holds : Rows.ReadyPlaceSaid :=
  OpenClaim.holds_of_wide 7 Try.f7 rfl rfl rfl rfl rfl rfl rfl ⟨rfl, rfl, rfl, rfl, rfl⟩ rfl rfl rfl rfl rfl readyPlace_named Try.func7 readyPlace_facts
    (of_decide_eq_true (by kernel_rfl)) (by unfold Func.isWrapper; first | (rw [if_pos (by decide +kernel)]; kernel_rfl) | (rw [if_neg (by decide +kernel)]; exact ⟨rfl, rfl⟩))
    (fun os started H enc _ => readyPlace_lifted os started H enc)
end Go.Proofs.Ytpjmceiegogobaa
