/- All periods and the frame divide the hyperperiod, and no lesser part of it is divided by them all. -/
import Derived.Test.YtgpefejghhgnmaaLaw6d
import Derived.Test.YtgpefejghhgnmaaOpen
import Derived.Test.YtgpefejghhgnmaaFacts
set_option linter.unusedVariables false
set_option linter.unusedSimpArgs false
namespace Go.Proofs.Ytgpefejghhgnmaa
open Go.ChangeShapes Go.WideShapes Go.ChangeAt Go.RowKit
set_option maxRecDepth 100000 in
theorem frameHyper_lifted (os : Os) (started : os.Started) (H : Type) (enc : TypeId × Value → H) :
    ReturnsInHanded {} Try.checked os 5 .any (Rows.frameHyperSpec.pre6 enc Try.prog Try.f5 Rows.frameHyperRow.domain false) (Rows.frameHyperSpec.post enc Try.prog Try.f5 false true false false) := by
  refine returnsInHanded_of_change_sized (C := Try.checked) own started (by kernel_rfl) Try.func5
    (ChangeSpec.witness6 (enc := enc) (C := Try.checked) false ⟨#[], #[.agg #[.int .i64 0, .int .i64 0, .slice none 0 0, .slice none 0 0, .slice none 0 0]], []⟩ 8 (by kernel_rfl) (by kernel_rfl) (by kernel_rfl) (by kernel_rfl)) ?_
  intro W base args ds gs before hval0 hW hcnd hsz0 _
  have hsz : (DataW.weightsEach Try.prog (Try.f5.params.toList ++ Rows.frameHyperSpec.plain.varTypes Try.prog) (ds ++ gs)).all (· ≤ reachBytes) = true := hsz0
  have hval : ∀ (j : Nat) t v, Try.f5.params[j]? = some t → args[j]? = some v → Value.okWide Try.prog W .any base t v := hval0
  have hW' := hW
  obtain ⟨p, q, hA0, hV, rfl, hfz, hnd⟩ := hW
  have hA : DataW.TrodAll enc Try.prog W 0 (fun _ => true) true Try.f5.params.toList args.toList ds p := hA0
  rw [Try.params5] at hA hval hsz
  obtain ⟨v0, vs0, d0, ds0, p0, q0, hargs, rfl, rfl, h0, r0⟩ := trodAll_cons hA
  obtain ⟨rfl, rfl, rfl⟩ := trodAll_nil r0
  obtain rfl : args = #[v0] := by cases args; simp_all
  obtain ⟨rfl, rfl⟩ := trodVars_none hV
  have k0 := h0
  have lt0 : ∀ x ∈ p0, x.block < W.heap.size := by obtain ⟨m, hm⟩ := k0; exact DataW.trod_lt m _ _ _ hm
  obtain ⟨c0, hc0⟩ := open_cfg (hval 0 26 v0 rfl rfl) h0 (weights_each hsz (j := 0) rfl rfl)
  clear hA0 hval0 hsz0 hsz
  refine (frameHyper_any c0 v0 W hc0).mono fun e W' ⟨he, bel⟩ => ?_
  subst he
  exact ⟨_, rfl, _, _, _, [], _, [], hW', trodAll_mk1 (shut_bool Try.underlying4 _), trodAll_mk1 (Below.trod laidOut (by kernel_rfl) (of_decide_eq_true (by kernel_rfl)) k0 bel lt0), rfl, bel.frame _, fun h => by cases h⟩
theorem frameHyper_named : Try.checked.prog.funcNamed Rows.frameHyperRow.func = some 5 := by kernel_rfl
theorem frameHyper_wf : Rows.frameHyperRow.wf (OpenSpec.ofChange Rows.frameHyperSpec) = true := by kernel_rfl
theorem frameHyper_inPlace : (Rows.frameHyperRow.inPlace == Try.checked.prog.inPlace 5) = true := by kernel_rfl
theorem frameHyper_unf : (Rows.frameHyperRow.unfollowed == Try.checked.prog.unfollowed 5) = true := by kernel_rfl
theorem frameHyper_rec : (Rows.frameHyperRow.recurses == Try.checked.prog.recurses 5) = true := by kernel_rfl
theorem frameHyper_nam : (Rows.frameHyperRow.named == Try.checked.prog.varsNamed 5) = true := by kernel_rfl
theorem frameHyper_pk : (Rows.frameHyperRow.plainKeys == Try.checked.prog.plainKeys) = true := by kernel_rfl
theorem frameHyper_tie : namedTie Try.checked.prog Rows.frameHyperRow.named Rows.frameHyperSpec.vars = true := by kernel_rfl
theorem frameHyper_par : Try.f5.params.all (Try.checked.prog.readableRec ·) = true := by kernel_rfl
theorem frameHyper_facts : joinedFacts Try.checked.prog 5 Try.f5 Rows.frameHyperSpec Rows.frameHyperRow = true := by
  have a1 := frameHyper_wf
  have hl : (Rows.frameHyperRow.lifted == Try.checked.prog.liftsFinal) = true := by rw [show Try.checked.prog.liftsFinal = false from fc_lifts]; rfl
  have hm : (Try.checked.prog.make == some Rows.frameHyperRow.make) = true := by rw [show Try.checked.prog.make = some Make.cut from fc_make]; rfl
  unfold joinedFacts
  rw [frameHyper_wf, frameHyper_inPlace, frameHyper_unf, frameHyper_rec, frameHyper_nam, frameHyper_pk, frameHyper_tie, frameHyper_par, show laidOutB Try.checked.prog = true from fc_laidOut, show mapsRowed Try.checked.prog = true from fc_mapsRowed, show (Try.checked.prog.stops == []) = true from fc_stops, show (Try.checked.prog.stopKnobs == []) = true from fc_stopKnobs, show Try.checked.prog.stopsHeard = true from fc_heard, show Try.checked.prog.mayEnter = true from fc_mayEnter, hl, hm]
  show (_ : Bool) = true
  kernel_rfl
theorem frameHyper_holds : Rows.FrameHyperSaid :=
  OpenClaim.holds_of_wide 5 Try.f5 rfl rfl rfl rfl rfl rfl rfl ⟨rfl, rfl, rfl, rfl, rfl⟩ rfl rfl rfl rfl rfl frameHyper_named Try.func5 frameHyper_facts
    (of_decide_eq_true (by kernel_rfl)) (by unfold Func.isWrapper; first | (rw [if_pos (by decide +kernel)]; kernel_rfl) | (rw [if_neg (by decide +kernel)]; exact ⟨rfl, rfl⟩))
    (fun os started H enc _ => frameHyper_lifted os started H enc)
end Go.Proofs.Ytgpefejghhgnmaa
