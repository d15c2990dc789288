/- JobTicks: tick by tick, whoever has the tick, each job that comes is done, killed, missed or still there, and never are there two of one task. -/
import Derived.Test.YtbkhnlacabaagaaLaw14f
import Derived.Test.YtbkhnlacabaagaaOpenPt
import Derived.Test.YtbkhnlacabaagaaFacts
set_option linter.unusedVariables false
set_option linter.unusedSimpArgs false
namespace Go.Proofs.Ytbkhnlacabaagaa
open Go.ChangeShapes Go.WideShapes Go.ChangeAt Go.RowKit
set_option maxRecDepth 100000 in
theorem jobTicks_lifted (os : Os) (started : os.Started) (H : Type) (enc : TypeId × Value → H) :
    ReturnsInHanded {} Try.checked os 3 .any (Rows.jobTicksSpec.pre6 enc Try.prog Try.f3 Rows.jobTicksRow.domain false) (Rows.jobTicksSpec.post enc Try.prog Try.f3 false true false false) := by
  refine returnsInHanded_of_change_sized (C := Try.checked) own started (by kernel_rfl) Try.func3
    (ChangeSpec.witness6 (enc := enc) (C := Try.checked) false ⟨#[], #[.agg #[.int .i64 0, .slice none 0 0, .slice none 0 0], .slice none 0 0, .slice none 0 0], []⟩ 8 (by kernel_rfl) (by kernel_rfl) (by kernel_rfl) (by kernel_rfl)) ?_
  intro W base args ds gs before hval0 hW hcnd hsz0 _
  have hsz : (DataW.weightsEach Try.prog (Try.f3.params.toList ++ Rows.jobTicksSpec.plain.varTypes Try.prog) (ds ++ gs)).all (· ≤ reachBytes) = true := hsz0
  have hval : ∀ (j : Nat) t v, Try.f3.params[j]? = some t → args[j]? = some v → Value.okWide Try.prog W .any base t v := hval0
  have hW' := hW
  obtain ⟨p, q, hA0, hV, rfl, hfz, hnd⟩ := hW
  have hA : DataW.TrodAll enc Try.prog W 0 (fun _ => true) true Try.f3.params.toList args.toList ds p := hA0
  rw [Try.params3] at hA hval hsz
  obtain ⟨v0, vs0, d0, ds0, p0, q0, hargs, rfl, rfl, h0, r0⟩ := trodAll_cons hA
  obtain ⟨v1, vs1, d1, ds1, p1, q1, rfl, rfl, rfl, h1, r1⟩ := trodAll_cons r0
  obtain ⟨v2, vs2, d2, ds2, p2, q2, rfl, rfl, rfl, h2, r2⟩ := trodAll_cons r1
  obtain ⟨rfl, rfl, rfl⟩ := trodAll_nil r2
  obtain rfl : args = #[v0, v1, v2] := by cases args; simp_all
  obtain ⟨rfl, rfl⟩ := trodVars_none hV
  have k0 := h0
  have lt0 : ∀ x ∈ p0, x.block < W.heap.size := by obtain ⟨m, hm⟩ := k0; exact DataW.trod_lt m _ _ _ hm
  obtain ⟨c0, hc0⟩ := open_part (hval 0 25 v0 rfl rfl) h0 (weights_each hsz (j := 0) rfl rfl)
  have k1 := h1
  have lt1 : ∀ x ∈ p1, x.block < W.heap.size := by obtain ⟨m, hm⟩ := k1; exact DataW.trod_lt m _ _ _ hm
  obtain ⟨c1, hc1⟩ := open_intsV (hval 1 26 v1 rfl rfl) h1 (weights_each hsz (j := 1) rfl rfl)
  have k2 := h2
  have lt2 : ∀ x ∈ p2, x.block < W.heap.size := by obtain ⟨m, hm⟩ := k2; exact DataW.trod_lt m _ _ _ hm
  obtain ⟨c2, hc2⟩ := open_intsV (hval 2 26 v2 rfl rfl) h2 (weights_each hsz (j := 2) rfl rfl)
  clear hA0 hval0 hsz0 hsz
  refine (jobTicks_any c0 v0 c1 v1 c2 v2 W hc0 hc1 hc2).mono fun e W' ⟨he, bel⟩ => ?_
  subst he
  exact ⟨_, rfl, _, _, _, [], _, [], hW', trodAll_mk1 (shut_bool Try.underlying4 _), ⟨_, _, (Below.trod laidOut (by kernel_rfl) (of_decide_eq_true (by kernel_rfl)) k0 bel lt0), ⟨_, _, (Below.trod laidOut (by kernel_rfl) (of_decide_eq_true (by kernel_rfl)) k1 bel lt1), ⟨_, _, (Below.trod laidOut (by kernel_rfl) (of_decide_eq_true (by kernel_rfl)) k2 bel lt2), rfl, rfl⟩, rfl⟩, rfl⟩, rfl, bel.frame _, fun h => by cases h⟩
theorem jobTicks_named : Try.checked.prog.funcNamed Rows.jobTicksRow.func = some 3 := by kernel_rfl
theorem jobTicks_wf : Rows.jobTicksRow.wf (OpenSpec.ofChange Rows.jobTicksSpec) = true := by kernel_rfl
theorem jobTicks_inPlace : (Rows.jobTicksRow.inPlace == Try.checked.prog.inPlace 3) = true := by kernel_rfl
theorem jobTicks_unf : (Rows.jobTicksRow.unfollowed == Try.checked.prog.unfollowed 3) = true := by kernel_rfl
theorem jobTicks_rec : (Rows.jobTicksRow.recurses == Try.checked.prog.recurses 3) = true := by kernel_rfl
theorem jobTicks_nam : (Rows.jobTicksRow.named == Try.checked.prog.varsNamed 3) = true := by kernel_rfl
theorem jobTicks_pk : (Rows.jobTicksRow.plainKeys == Try.checked.prog.plainKeys) = true := by kernel_rfl
theorem jobTicks_tie : namedTie Try.checked.prog Rows.jobTicksRow.named Rows.jobTicksSpec.vars = true := by kernel_rfl
theorem jobTicks_par : Try.f3.params.all (Try.checked.prog.readableRec ·) = true := by kernel_rfl
theorem jobTicks_facts : joinedFacts Try.checked.prog 3 Try.f3 Rows.jobTicksSpec Rows.jobTicksRow = true := by
  have a1 := jobTicks_wf
  have hl : (Rows.jobTicksRow.lifted == Try.checked.prog.liftsFinal) = true := by rw [show Try.checked.prog.liftsFinal = false from fc_lifts]; rfl
  have hm : (Try.checked.prog.make == some Rows.jobTicksRow.make) = true := by rw [show Try.checked.prog.make = some Make.cut from fc_make]; rfl
  unfold joinedFacts
  rw [jobTicks_wf, jobTicks_inPlace, jobTicks_unf, jobTicks_rec, jobTicks_nam, jobTicks_pk, jobTicks_tie, jobTicks_par, show laidOutB Try.checked.prog = true from fc_laidOut, show mapsRowed Try.checked.prog = true from fc_mapsRowed, show (Try.checked.prog.stops == []) = true from fc_stops, show (Try.checked.prog.stopKnobs == []) = true from fc_stopKnobs, show Try.checked.prog.stopsHeard = true from fc_heard, show Try.checked.prog.mayEnter = true from fc_mayEnter, hl, hm]
  show (_ : Bool) = true
  kernel_rfl
theorem jobTicks_holds : Rows.JobTicksSaid :=
  OpenClaim.holds_of_wide 3 Try.f3 rfl rfl rfl rfl rfl rfl rfl ⟨rfl, rfl, rfl, rfl, rfl⟩ rfl rfl rfl rfl rfl jobTicks_named Try.func3 jobTicks_facts
    (of_decide_eq_true (by kernel_rfl)) (by unfold Func.isWrapper; first | (rw [if_pos (by decide +kernel)]; kernel_rfl) | (rw [if_neg (by decide +kernel)]; exact ⟨rfl, rfl⟩))
    (fun os started H enc _ => jobTicks_lifted os started H enc)
end Go.Proofs.Ytbkhnlacabaagaa
