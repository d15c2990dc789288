/- KernelInputs answers yes: what the harness puts in the queue of inputs is what the seat reads, in order, and the last sixteen stay. -/
import Derived.Test.YtooeeiiiflfckaaGreatLaw22d
import Derived.Test.YtooeeiiiflfckaaGreatOpenI
import Derived.Test.YtooeeiiiflfckaaGreatFacts
set_option linter.unusedVariables false
set_option linter.unusedSimpArgs false
namespace Go.Proofs.YtooeeiiiflfckaaGreat
open Go.ChangeShapes Go.WideShapes Go.ChangeAt Go.RowKit
set_option maxRecDepth 100000 in
theorem kernelInputs_lifted (os : Os) (started : os.Started) (H : Type) (enc : TypeId × Value -> H) :
  ReturnsInHanded {} Tryz.checked os 8 .any (Rows.kernelInputsSpec.pre6 enc Tryz.prog Tryz.f8 Rows.kernelInputsRow.domain false) (Rows.kernelInputsSpec.post enc Tryz.prog Tryz.f8 false true false false) := by
 refine returnsInHanded_of_change_sized (C := Tryz.checked) own started (by kernel_rfl) Tryz.func8
  (ChangeSpec.witness6 (enc := enc) (C := Tryz.checked) false ⟨#[], #[.slice none 0 0], []⟩ 8 (by kernel_rfl) (by kernel_rfl) (by kernel_rfl) (by kernel_rfl)) ?_
 intro W base args ds gs before hval0 hW hcnd hsz0 _
 have hsz : (DataW.weightsEach Tryz.prog (Tryz.f8.params.toList ++ Rows.kernelInputsSpec.plain.varTypes Tryz.prog) (ds ++ gs)).all (· <= reachBytes) = true := hsz0
 have hval : ∀ (j : Nat) t v, Tryz.f8.params[j]? = some t -> args[j]? = some v -> Value.okWide Tryz.prog W .any base t v := hval0
 have hW' := hW
 obtain ⟨p, q, hA0, hV, rfl, hfz, hnd⟩ := hW
 have hA : DataW.TrodAll enc Tryz.prog W 0 (fun _ => true) true Tryz.f8.params.toList args.toList ds p := hA0
 rw [Tryz.params8] at hA hval hsz
 obtain ⟨v0, vs0, d0, ds0, p0, q0, hargs, rfl, rfl, h0, r0⟩ := trodAll_cons hA
 obtain ⟨rfl, rfl, rfl⟩ := trodAll_nil r0
 obtain rfl : args = #[v0] := by cases args; simp_all
 obtain ⟨rfl, rfl⟩ := trodVars_none hV
 have k0 := h0
 have lt0 : ∀ x ∈ p0, x.block < W.heap.size := by obtain ⟨m, hm⟩ := k0; exact DataW.trod_lt m _ _ _ hm
 obtain ⟨c0, hc0⟩ := open_intsV (hval 0 75 v0 rfl rfl) h0 (weights_each hsz (j := 0) rfl rfl)
 clear hA0 hval0 hsz0 hsz
 refine (kernelInputs_any c0 v0 W hc0).mono fun e W' ⟨he, bel⟩ => ?_
 subst he
 exact ⟨_, rfl, _, _, _, [], _, [], hW', trodAll_mk1 (shut_bool Tryz.underlying4 _), trodAll_mk1 (Below.trod fc_laidOut (by kernel_rfl) (of_decide_eq_true (by kernel_rfl)) k0 bel lt0), rfl, bel.frame _, fun h => by cases h⟩
theorem kernelInputs_named : Tryz.checked.prog.funcNamed Rows.kernelInputsRow.func = some 8 := by kernel_rfl
theorem kernelInputs_wf : Rows.kernelInputsRow.wf (OpenSpec.ofChange Rows.kernelInputsSpec) = true := by kernel_rfl
theorem kernelInputs_inPlace : (Rows.kernelInputsRow.inPlace == Tryz.checked.prog.inPlace 8) = true := by kernel_rfl
theorem kernelInputs_unf : (Rows.kernelInputsRow.unfollowed == Tryz.checked.prog.unfollowed 8) = true := by kernel_rfl
theorem kernelInputs_rec : (Rows.kernelInputsRow.recurses == Tryz.checked.prog.recurses 8) = true := by kernel_rfl
theorem kernelInputs_nam : (Rows.kernelInputsRow.named == Tryz.checked.prog.varsNamed 8) = true := by kernel_rfl
theorem kernelInputs_pk : (Rows.kernelInputsRow.plainKeys == Tryz.checked.prog.plainKeys) = true := by kernel_rfl
theorem kernelInputs_tie : namedTie Tryz.checked.prog Rows.kernelInputsRow.named Rows.kernelInputsSpec.vars = true := by kernel_rfl
theorem kernelInputs_par : Tryz.f8.params.all (Tryz.checked.prog.readableRec ·) = true := by kernel_rfl
theorem kernelInputs_facts : joinedFacts Tryz.checked.prog 8 Tryz.f8 Rows.kernelInputsSpec Rows.kernelInputsRow = true := by
 have a1 := kernelInputs_wf
 have hl : (Rows.kernelInputsRow.lifted == Tryz.checked.prog.liftsFinal) = true := by rw [show Tryz.checked.prog.liftsFinal = false from fc_lifts]; rfl
 have hm : (Tryz.checked.prog.make == some Rows.kernelInputsRow.make) = true := by rw [show Tryz.checked.prog.make = some Make.cut from fc_make]; rfl
 unfold joinedFacts
 rw [kernelInputs_wf, kernelInputs_inPlace, kernelInputs_unf, kernelInputs_rec, kernelInputs_nam, kernelInputs_pk, kernelInputs_tie, kernelInputs_par, show laidOutB Tryz.checked.prog = true from fc_laidOut, show mapsRowed Tryz.checked.prog = true from fc_mapsRowed, show (Tryz.checked.prog.stops == []) = true from fc_stops, show (Tryz.checked.prog.stopKnobs == []) = true from fc_stopKnobs, show Tryz.checked.prog.stopsHeard = true from fc_heard, show Tryz.checked.prog.mayEnter = true from fc_mayEnter, hl, hm]
 show (_ : Bool) = true
 kernel_rfl
theorem kernelInputs_holds : Rows.KernelInputsSaid :=
 OpenClaim.holds_of_wide 8 Tryz.f8 rfl rfl rfl rfl rfl rfl rfl ⟨rfl, rfl, rfl, rfl, rfl⟩ rfl rfl rfl rfl rfl kernelInputs_named Tryz.func8 kernelInputs_facts
  (of_decide_eq_true (by kernel_rfl)) (by unfold Func.isWrapper; first | (rw [if_pos (by decide +kernel)]; kernel_rfl) | (rw [if_neg (by decide +kernel)]; exact ⟨rfl, rfl⟩))
  (fun os started H enc _ => kernelInputs_lifted os started H enc)
end Go.Proofs.YtooeeiiiflfckaaGreat
