/- At any configuration, part and task, the response that package admit gives is the one that the reference gives, with the same error; its admission is the reference's too; and the configuration that it was handed stays as it was. -/
import Derived.Test.YthnecccakeminaaLaw9b
import Derived.Test.YthnecccakeminaaOpen
import Derived.Test.YthnecccakeminaaFacts
set_option linter.unusedVariables false
set_option linter.unusedSimpArgs false
namespace Go.Proofs.Ythnecccakeminaa
open Go.ChangeShapes Go.WideShapes Go.ChangeAt Go.RowKit
set_option maxRecDepth 100000 in
theorem admits_lifted (os : Os) (started : os.Started) (H : Type) (enc : TypeId × Value → H) :
    ReturnsInHanded {} Try.checked os 3 .any (Rows.admitsSpec.pre6 enc Try.prog Try.f3 Rows.admitsRow.domain false) (Rows.admitsSpec.post enc Try.prog Try.f3 false true false false) := by
  refine returnsInHanded_of_change_sized (C := Try.checked) own started (by kernel_rfl) Try.func3
    (ChangeSpec.witness6 (enc := enc) (C := Try.checked) false ⟨#[], #[.agg #[.int .i64 0, .int .i64 0, .slice none 0 0, .slice none 0 0, .slice none 0 0], .int .i64 0, .int .i64 0], []⟩ 8 (by kernel_rfl) (by kernel_rfl) (by kernel_rfl) (by kernel_rfl)) ?_
  intro W base args ds gs before hval0 hW hcnd hsz0 _
  have hsz : (DataW.weightsEach Try.prog (Try.f3.params.toList ++ Rows.admitsSpec.plain.varTypes Try.prog) (ds ++ gs)).all (· ≤ reachBytes) = true := hsz0
  have hval : ∀ (j : Nat) t v, Try.f3.params[j]? = some t → args[j]? = some v → Value.okWide Try.prog W .any base t v := hval0
  have hW' := hW
  obtain ⟨p, q, hA0, hV, rfl, hfz, hnd⟩ := hW
  have hA : DataW.TrodAll enc Try.prog W 0 (fun _ => true) true Try.f3.params.toList args.toList ds p := hA0
  rw [Try.params3] at hA hval hsz
  obtain ⟨v0, vs0, d0, ds0, p0, q0, hargs, rfl, rfl, h0, r0⟩ := trodAll_cons hA
  obtain ⟨v1, vs1, d1, ds1, p1, q1, rfl, rfl, rfl, h1, r1⟩ := trodAll_cons r0
  obtain ⟨v2, vs2, d2, ds2, p2, q2, rfl, rfl, rfl, h2, r2⟩ := trodAll_cons r1
  obtain ⟨rfl, rfl, rfl⟩ := trodAll_nil r2
  obtain rfl : args = #[v0, v1, v2] := by cases args; simp_all
  obtain ⟨rfl, rfl⟩ := trodVars_none hV
  have k0 := h0
  have lt0 : ∀ x ∈ p0, x.block < W.heap.size := by obtain ⟨m, hm⟩ := k0; exact DataW.trod_lt m _ _ _ hm
  obtain ⟨c0, hc0⟩ := open_cfg (hval 0 26 v0 rfl rfl) h0 (weights_each hsz (j := 0) rfl rfl)
  obtain ⟨a1, rfl, rfl, rfl, w1⟩ := open_int Try.underlying3 (hval 1 3 v1 rfl rfl) h1
  obtain ⟨a2, rfl, rfl, rfl, w2⟩ := open_int Try.underlying3 (hval 2 3 v2 rfl rfl) h2
  clear hA0 hval0 hsz0 hsz
  refine (admits_any c0 v0 a1 a2 W hc0).mono fun e W' ⟨he, bel⟩ => ?_
  subst he
  exact ⟨_, rfl, _, _, _, [], _, [], hW', trodAll_mk1 (shut_bool Try.underlying4 _), ⟨_, _, (Below.trod laidOut (by kernel_rfl) (of_decide_eq_true (by kernel_rfl)) k0 bel lt0), ⟨_, _, (shut_int Try.underlying3 w1), ⟨_, _, (shut_int Try.underlying3 w2), rfl, rfl⟩, rfl⟩, rfl⟩, rfl, bel.frame _, fun h => by cases h⟩
theorem admits_named : Try.checked.prog.funcNamed Rows.admitsRow.func = some 3 := by kernel_rfl
theorem admits_wf : Rows.admitsRow.wf (OpenSpec.ofChange Rows.admitsSpec) = true := by kernel_rfl
theorem admits_inPlace : (Rows.admitsRow.inPlace == Try.checked.prog.inPlace 3) = true := by kernel_rfl
theorem admits_unf : (Rows.admitsRow.unfollowed == Try.checked.prog.unfollowed 3) = true := by kernel_rfl
theorem admits_rec : (Rows.admitsRow.recurses == Try.checked.prog.recurses 3) = true := by kernel_rfl
theorem admits_nam : (Rows.admitsRow.named == Try.checked.prog.varsNamed 3) = true := by kernel_rfl
theorem admits_pk : (Rows.admitsRow.plainKeys == Try.checked.prog.plainKeys) = true := by kernel_rfl
theorem admits_tie : namedTie Try.checked.prog Rows.admitsRow.named Rows.admitsSpec.vars = true := by kernel_rfl
theorem admits_par : Try.f3.params.all (Try.checked.prog.readableRec ·) = true := by kernel_rfl
theorem admits_facts : joinedFacts Try.checked.prog 3 Try.f3 Rows.admitsSpec Rows.admitsRow = true := by
  have a1 := admits_wf
  have hl : (Rows.admitsRow.lifted == Try.checked.prog.liftsFinal) = true := by rw [show Try.checked.prog.liftsFinal = false from fc_lifts]; rfl
  have hm : (Try.checked.prog.make == some Rows.admitsRow.make) = true := by rw [show Try.checked.prog.make = some Make.cut from fc_make]; rfl
  unfold joinedFacts
  rw [admits_wf, admits_inPlace, admits_unf, admits_rec, admits_nam, admits_pk, admits_tie, admits_par, show laidOutB Try.checked.prog = true from fc_laidOut, show mapsRowed Try.checked.prog = true from fc_mapsRowed, show (Try.checked.prog.stops == []) = true from fc_stops, show (Try.checked.prog.stopKnobs == []) = true from fc_stopKnobs, show Try.checked.prog.stopsHeard = true from fc_heard, show Try.checked.prog.mayEnter = true from fc_mayEnter, hl, hm]
  show (_ : Bool) = true
  kernel_rfl
theorem admits_holds : Rows.AdmitsSaid :=
  OpenClaim.holds_of_wide 3 Try.f3 rfl rfl rfl rfl rfl rfl rfl ⟨rfl, rfl, rfl, rfl, rfl⟩ rfl rfl rfl rfl rfl admits_named Try.func3 admits_facts
    (of_decide_eq_true (by kernel_rfl)) (by unfold Func.isWrapper; first | (rw [if_pos (by decide +kernel)]; kernel_rfl) | (rw [if_neg (by decide +kernel)]; exact ⟨rfl, rfl⟩))
    (fun os started H enc _ => admits_lifted os started H enc)
end Go.Proofs.Ythnecccakeminaa
