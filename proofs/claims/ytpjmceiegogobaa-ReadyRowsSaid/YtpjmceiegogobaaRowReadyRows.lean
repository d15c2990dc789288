/- Jobs put one by one stand in one row, whichever came first, and the first one is of the least Prio, whatever the numbers that the jobs are drawn from. -/
import Derived.Test.YtpjmceiegogobaaLaw12g
import Derived.Test.YtpjmceiegogobaaOpenJ
import Derived.Test.YtpjmceiegogobaaFacts
set_option linter.unusedVariables false
set_option linter.unusedSimpArgs false
namespace Go.Proofs.Ytpjmceiegogobaa
open Go.ChangeShapes Go.WideShapes Go.ChangeAt Go.RowKit
set_option maxRecDepth 100000 in
theorem readyRows_lifted (os : Os) (started : os.Started) (H : Type) (enc : TypeId × Value → H) :
    ReturnsInHanded {} Try.checked os 4 .any (Rows.readyRowsSpec.pre6 enc Try.prog Try.f4 Rows.readyRowsRow.domain false) (Rows.readyRowsSpec.post enc Try.prog Try.f4 false true false false) := by
  refine returnsInHanded_of_change_sized (C := Try.checked) own started (by kernel_rfl) Try.func4
    (ChangeSpec.witness6 (enc := enc) (C := Try.checked) false ⟨#[], #[.slice none 0 0], []⟩ 8 (by kernel_rfl) (by kernel_rfl) (by kernel_rfl) (by kernel_rfl)) ?_
  intro W base args ds gs before hval0 hW hcnd hsz0 _
  have hsz : (DataW.weightsEach Try.prog (Try.f4.params.toList ++ Rows.readyRowsSpec.plain.varTypes Try.prog) (ds ++ gs)).all (· ≤ reachBytes) = true := hsz0
  have hval : ∀ (j : Nat) t v, Try.f4.params[j]? = some t → args[j]? = some v → Value.okWide Try.prog W .any base t v := hval0
  have hW' := hW
  obtain ⟨p, q, hA0, hV, rfl, hfz, hnd⟩ := hW
  have hA : DataW.TrodAll enc Try.prog W 0 (fun _ => true) true Try.f4.params.toList args.toList ds p := hA0
  rw [Try.params4] at hA hval hsz
  obtain ⟨v0, vs0, d0, ds0, p0, q0, hargs, rfl, rfl, h0, r0⟩ := trodAll_cons hA
  obtain ⟨rfl, rfl, rfl⟩ := trodAll_nil r0
  obtain rfl : args = #[v0] := by cases args; simp_all
  obtain ⟨rfl, rfl⟩ := trodVars_none hV
  have k0 := h0
  have lt0 : ∀ x ∈ p0, x.block < W.heap.size := by obtain ⟨m, hm⟩ := k0; exact DataW.trod_lt m _ _ _ hm
  obtain ⟨c0, hc0⟩ := open_intsV (hval 0 41 v0 rfl rfl) h0 (weights_each hsz (j := 0) rfl rfl)
  clear hA0 hval0 hsz0 hsz
  refine (readyRows_any c0 v0 W hc0).mono fun e W' ⟨he, bel⟩ => ?_
  subst he
  exact ⟨_, rfl, _, _, _, [], _, [], hW', trodAll_mk1 (shut_bool Try.underlying4 _), trodAll_mk1 (Below.trod laidOut (by kernel_rfl) (of_decide_eq_true (by kernel_rfl)) k0 bel lt0), rfl, bel.frame _, fun h => by cases h⟩
theorem readyRows_named : Try.checked.prog.funcNamed Rows.readyRowsRow.func = some 4 := by kernel_rfl
theorem readyRows_wf : Rows.readyRowsRow.wf (OpenSpec.ofChange Rows.readyRowsSpec) = true := by kernel_rfl
theorem readyRows_inPlace : (Rows.readyRowsRow.inPlace == Try.checked.prog.inPlace 4) = true := by kernel_rfl
theorem readyRows_unf : (Rows.readyRowsRow.unfollowed == Try.checked.prog.unfollowed 4) = true := by kernel_rfl
theorem readyRows_rec : (Rows.readyRowsRow.recurses == Try.checked.prog.recurses 4) = true := by kernel_rfl
theorem readyRows_nam : (Rows.readyRowsRow.named == Try.checked.prog.varsNamed 4) = true := by kernel_rfl
theorem readyRows_pk : (Rows.readyRowsRow.plainKeys == Try.checked.prog.plainKeys) = true := by kernel_rfl
theorem readyRows_tie : namedTie Try.checked.prog Rows.readyRowsRow.named Rows.readyRowsSpec.vars = true := by kernel_rfl
theorem readyRows_par : Try.f4.params.all (Try.checked.prog.readableRec ·) = true := by kernel_rfl
theorem readyRows_facts : joinedFacts Try.checked.prog 4 Try.f4 Rows.readyRowsSpec Rows.readyRowsRow = true := by
  have a1 := readyRows_wf
  have hl : (Rows.readyRowsRow.lifted == Try.checked.prog.liftsFinal) = true := by rw [show Try.checked.prog.liftsFinal = false from fc_lifts]; rfl
  have hm : (Try.checked.prog.make == some Rows.readyRowsRow.make) = true := by rw [show Try.checked.prog.make = some Make.cut from fc_make]; rfl
  unfold joinedFacts
  rw [readyRows_wf, readyRows_inPlace, readyRows_unf, readyRows_rec, readyRows_nam, readyRows_pk, readyRows_tie, readyRows_par, show laidOutB Try.checked.prog = true from fc_laidOut, show mapsRowed Try.checked.prog = true from fc_mapsRowed, show (Try.checked.prog.stops == []) = true from fc_stops, show (Try.checked.prog.stopKnobs == []) = true from fc_stopKnobs, show Try.checked.prog.stopsHeard = true from fc_heard, show Try.checked.prog.mayEnter = true from fc_mayEnter, hl, hm]
  show (_ : Bool) = true
  kernel_rfl
theorem readyRows_holds : Rows.ReadyRowsSaid :=
  OpenClaim.holds_of_wide 4 Try.f4 rfl rfl rfl rfl rfl rfl rfl ⟨rfl, rfl, rfl, rfl, rfl⟩ rfl rfl rfl rfl rfl readyRows_named Try.func4 readyRows_facts
    (of_decide_eq_true (by kernel_rfl)) (by unfold Func.isWrapper; first | (rw [if_pos (by decide +kernel)]; kernel_rfl) | (rw [if_neg (by decide +kernel)]; exact ⟨rfl, rfl⟩))
    (fun os started H enc _ => readyRows_lifted os started H enc)
end Go.Proofs.Ytpjmceiegogobaa
