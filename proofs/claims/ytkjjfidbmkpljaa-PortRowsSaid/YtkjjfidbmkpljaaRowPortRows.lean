/- What is written to a queue is taken in its row, and a sample is the last value as often as it is taken, whatever the words, the size and the kind. -/
import Derived.Test.YtkjjfidbmkpljaaLaw17d
import Derived.Test.YtkjjfidbmkpljaaOpenI
import Derived.Test.YtkjjfidbmkpljaaOpen
import Derived.Test.YtkjjfidbmkpljaaFacts
set_option linter.unusedVariables false
set_option linter.unusedSimpArgs false
namespace Go.Proofs.Ytkjjfidbmkpljaa
open Go.ChangeShapes Go.WideShapes Go.ChangeAt Go.RowKit
set_option maxRecDepth 100000 in
theorem portRows_lifted (os : Os) (started : os.Started) (H : Type) (enc : TypeId × Value → H) :
    ReturnsInHanded {} Try.checked os 5 .any (Rows.portRowsSpec.pre6 enc Try.prog Try.f5 Rows.portRowsRow.domain false) (Rows.portRowsSpec.post enc Try.prog Try.f5 false true false false) := by
  refine returnsInHanded_of_change_sized (C := Try.checked) own started (by kernel_rfl) Try.func5
    (ChangeSpec.witness6 (enc := enc) (C := Try.checked) false ⟨#[], #[.slice none 0 0, .int .i64 0, .bool false], []⟩ 8 (by kernel_rfl) (by kernel_rfl) (by kernel_rfl) (by kernel_rfl)) ?_
  intro W base args ds gs before hval0 hW hcnd hsz0 _
  have hsz : (DataW.weightsEach Try.prog (Try.f5.params.toList ++ Rows.portRowsSpec.plain.varTypes Try.prog) (ds ++ gs)).all (· ≤ reachBytes) = true := hsz0
  have hval : ∀ (j : Nat) t v, Try.f5.params[j]? = some t → args[j]? = some v → Value.okWide Try.prog W .any base t v := hval0
  have hW' := hW
  obtain ⟨p, q, hA0, hV, rfl, hfz, hnd⟩ := hW
  have hA : DataW.TrodAll enc Try.prog W 0 (fun _ => true) true Try.f5.params.toList args.toList ds p := hA0
  rw [Try.params5] at hA hval hsz
  obtain ⟨v0, vs0, d0, ds0, p0, q0, hargs, rfl, rfl, h0, r0⟩ := trodAll_cons hA
  obtain ⟨v1, vs1, d1, ds1, p1, q1, rfl, rfl, rfl, h1, r1⟩ := trodAll_cons r0
  obtain ⟨v2, vs2, d2, ds2, p2, q2, rfl, rfl, rfl, h2, r2⟩ := trodAll_cons r1
  obtain ⟨rfl, rfl, rfl⟩ := trodAll_nil r2
  obtain rfl : args = #[v0, v1, v2] := by cases args; simp_all
  obtain ⟨rfl, rfl⟩ := trodVars_none hV
  have k0 := h0
  have lt0 : ∀ x ∈ p0, x.block < W.heap.size := by obtain ⟨m, hm⟩ := k0; exact DataW.trod_lt m _ _ _ hm
  obtain ⟨c0, hc0⟩ := open_intsV (hval 0 49 v0 rfl rfl) h0 (weights_each hsz (j := 0) rfl rfl)
  obtain ⟨a1, rfl, rfl, rfl, w1⟩ := open_int Try.underlying3 (hval 1 3 v1 rfl rfl) h1
  obtain ⟨a2, rfl, rfl, rfl⟩ := open_bool Try.underlying4 (hval 2 4 v2 rfl rfl) h2
  clear hA0 hval0 hsz0 hsz
  refine (portRows_any c0 v0 a1 a2 W hc0).mono fun e W' ⟨he, bel⟩ => ?_
  subst he
  exact ⟨_, rfl, _, _, _, [], _, [], hW', trodAll_mk1 (shut_bool Try.underlying4 _), ⟨_, _, (Below.trod laidOut (by kernel_rfl) (of_decide_eq_true (by kernel_rfl)) k0 bel lt0), ⟨_, _, (shut_int Try.underlying3 w1), ⟨_, _, (shut_bool Try.underlying4 _), rfl, rfl⟩, rfl⟩, rfl⟩, rfl, bel.frame _, fun h => by cases h⟩
theorem portRows_named : Try.checked.prog.funcNamed Rows.portRowsRow.func = some 5 := by kernel_rfl
theorem portRows_wf : Rows.portRowsRow.wf (OpenSpec.ofChange Rows.portRowsSpec) = true := by kernel_rfl
theorem portRows_inPlace : (Rows.portRowsRow.inPlace == Try.checked.prog.inPlace 5) = true := by kernel_rfl
theorem portRows_unf : (Rows.portRowsRow.unfollowed == Try.checked.prog.unfollowed 5) = true := by kernel_rfl
theorem portRows_rec : (Rows.portRowsRow.recurses == Try.checked.prog.recurses 5) = true := by kernel_rfl
theorem portRows_nam : (Rows.portRowsRow.named == Try.checked.prog.varsNamed 5) = true := by kernel_rfl
theorem portRows_pk : (Rows.portRowsRow.plainKeys == Try.checked.prog.plainKeys) = true := by kernel_rfl
theorem portRows_tie : namedTie Try.checked.prog Rows.portRowsRow.named Rows.portRowsSpec.vars = true := by kernel_rfl
theorem portRows_par : Try.f5.params.all (Try.checked.prog.readableRec ·) = true := by kernel_rfl
theorem portRows_facts : joinedFacts Try.checked.prog 5 Try.f5 Rows.portRowsSpec Rows.portRowsRow = true := by
  have a1 := portRows_wf
  have hl : (Rows.portRowsRow.lifted == Try.checked.prog.liftsFinal) = true := by rw [show Try.checked.prog.liftsFinal = false from fc_lifts]; rfl
  have hm : (Try.checked.prog.make == some Rows.portRowsRow.make) = true := by rw [show Try.checked.prog.make = some Make.cut from fc_make]; rfl
  unfold joinedFacts
  rw [portRows_wf, portRows_inPlace, portRows_unf, portRows_rec, portRows_nam, portRows_pk, portRows_tie, portRows_par, show laidOutB Try.checked.prog = true from fc_laidOut, show mapsRowed Try.checked.prog = true from fc_mapsRowed, show (Try.checked.prog.stops == []) = true from fc_stops, show (Try.checked.prog.stopKnobs == []) = true from fc_stopKnobs, show Try.checked.prog.stopsHeard = true from fc_heard, show Try.checked.prog.mayEnter = true from fc_mayEnter, hl, hm]
  show (_ : Bool) = true
  kernel_rfl
theorem portRows_holds : Rows.PortRowsSaid :=
  OpenClaim.holds_of_wide 5 Try.f5 rfl rfl rfl rfl rfl rfl rfl ⟨rfl, rfl, rfl, rfl, rfl⟩ rfl rfl rfl rfl rfl portRows_named Try.func5 portRows_facts
    (of_decide_eq_true (by kernel_rfl)) (by unfold Func.isWrapper; first | (rw [if_pos (by decide +kernel)]; kernel_rfl) | (rw [if_neg (by decide +kernel)]; exact ⟨rfl, rfl⟩))
    (fun os started H enc _ => portRows_lifted os started H enc)
end Go.Proofs.Ytkjjfidbmkpljaa
