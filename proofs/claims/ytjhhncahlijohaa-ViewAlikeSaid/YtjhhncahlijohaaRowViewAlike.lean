/- What a high part is, the windows, the ports and the frame are seen, what a low part is is not: the statement answers true for every choice. -/
import Derived.Test.YtjhhncahlijohaaLaw23g
import Derived.Test.YtjhhncahlijohaaOpen
import Derived.Test.YtjhhncahlijohaaFacts
set_option linter.unusedVariables false
set_option linter.unusedSimpArgs false
namespace Go.Proofs.Ytjhhncahlijohaa
open Go.ChangeShapes Go.WideShapes Go.ChangeAt Go.RowKit
set_option maxRecDepth 100000 in
theorem viewAlike_lifted (os : Os) (started : os.Started) (H : Type) (enc : TypeId × Value → H) :
    ReturnsInHanded {} Try.checked os 4 .any (Rows.viewAlikeSpec.pre6 enc Try.prog Try.f4 Rows.viewAlikeRow.domain false) (Rows.viewAlikeSpec.post enc Try.prog Try.f4 false true false false) := by
  refine returnsInHanded_of_change_sized (C := Try.checked) own started (by kernel_rfl) Try.func4
    (ChangeSpec.witness6 (enc := enc) (C := Try.checked) false ⟨#[], #[.int .i64 0, .int .i64 0], []⟩ 8 (by kernel_rfl) (by kernel_rfl) (by kernel_rfl) (by kernel_rfl)) ?_
  intro W base args ds gs before hval0 hW hcnd hsz0 _
  have hsz : (DataW.weightsEach Try.prog (Try.f4.params.toList ++ Rows.viewAlikeSpec.plain.varTypes Try.prog) (ds ++ gs)).all (· ≤ reachBytes) = true := hsz0
  have hval : ∀ (j : Nat) t v, Try.f4.params[j]? = some t → args[j]? = some v → Value.okWide Try.prog W .any base t v := hval0
  have hW' := hW
  obtain ⟨p, q, hA0, hV, rfl, hfz, hnd⟩ := hW
  have hA : DataW.TrodAll enc Try.prog W 0 (fun _ => true) true Try.f4.params.toList args.toList ds p := hA0
  rw [Try.params4] at hA hval hsz
  obtain ⟨v0, vs0, d0, ds0, p0, q0, hargs, rfl, rfl, h0, r0⟩ := trodAll_cons hA
  obtain ⟨v1, vs1, d1, ds1, p1, q1, rfl, rfl, rfl, h1, r1⟩ := trodAll_cons r0
  obtain ⟨rfl, rfl, rfl⟩ := trodAll_nil r1
  obtain rfl : args = #[v0, v1] := by cases args; simp_all
  obtain ⟨rfl, rfl⟩ := trodVars_none hV
  obtain ⟨a0, rfl, rfl, rfl, w0⟩ := open_int Try.underlying3 (hval 0 3 v0 rfl rfl) h0
  obtain ⟨a1, rfl, rfl, rfl, w1⟩ := open_int Try.underlying3 (hval 1 3 v1 rfl rfl) h1
  clear hA0 hval0 hsz0 hsz
  refine (viewAlike_any a0 a1 W ).mono fun e W' ⟨he, bel⟩ => ?_
  subst he
  exact ⟨_, rfl, _, _, _, [], _, [], hW', trodAll_mk1 (shut_bool Try.underlying4 _), trodAll_mk2 (shut_int Try.underlying3 w0) (shut_int Try.underlying3 w1), rfl, bel.frame _, fun h => by cases h⟩
theorem viewAlike_named : Try.checked.prog.funcNamed Rows.viewAlikeRow.func = some 4 := by kernel_rfl
theorem viewAlike_wf : Rows.viewAlikeRow.wf (OpenSpec.ofChange Rows.viewAlikeSpec) = true := by kernel_rfl
theorem viewAlike_inPlace : (Rows.viewAlikeRow.inPlace == Try.checked.prog.inPlace 4) = true := by kernel_rfl
theorem viewAlike_unf : (Rows.viewAlikeRow.unfollowed == Try.checked.prog.unfollowed 4) = true := by kernel_rfl
theorem viewAlike_rec : (Rows.viewAlikeRow.recurses == Try.checked.prog.recurses 4) = true := by kernel_rfl
theorem viewAlike_nam : (Rows.viewAlikeRow.named == Try.checked.prog.varsNamed 4) = true := by kernel_rfl
theorem viewAlike_pk : (Rows.viewAlikeRow.plainKeys == Try.checked.prog.plainKeys) = true := by kernel_rfl
theorem viewAlike_tie : namedTie Try.checked.prog Rows.viewAlikeRow.named Rows.viewAlikeSpec.vars = true := by kernel_rfl
theorem viewAlike_par : Try.f4.params.all (Try.checked.prog.readableRec ·) = true := by kernel_rfl
theorem viewAlike_facts : joinedFacts Try.checked.prog 4 Try.f4 Rows.viewAlikeSpec Rows.viewAlikeRow = true := by
  have a1 := viewAlike_wf
  have hl : (Rows.viewAlikeRow.lifted == Try.checked.prog.liftsFinal) = true := by rw [show Try.checked.prog.liftsFinal = false from fc_lifts]; rfl
  have hm : (Try.checked.prog.make == some Rows.viewAlikeRow.make) = true := by rw [show Try.checked.prog.make = some Make.cut from fc_make]; rfl
  unfold joinedFacts
  rw [viewAlike_wf, viewAlike_inPlace, viewAlike_unf, viewAlike_rec, viewAlike_nam, viewAlike_pk, viewAlike_tie, viewAlike_par, show laidOutB Try.checked.prog = true from fc_laidOut, show mapsRowed Try.checked.prog = true from fc_mapsRowed, show (Try.checked.prog.stops == []) = true from fc_stops, show (Try.checked.prog.stopKnobs == []) = true from fc_stopKnobs, show Try.checked.prog.stopsHeard = true from fc_heard, show Try.checked.prog.mayEnter = true from fc_mayEnter, hl, hm]
  show (_ : Bool) = true
  kernel_rfl
theorem viewAlike_holds : Rows.ViewAlikeSaid :=
  OpenClaim.holds_of_wide 4 Try.f4 rfl rfl rfl rfl rfl rfl rfl ⟨rfl, rfl, rfl, rfl, rfl⟩ rfl rfl rfl rfl rfl viewAlike_named Try.func4 viewAlike_facts
    (of_decide_eq_true (by kernel_rfl)) (by unfold Func.isWrapper; first | (rw [if_pos (by decide +kernel)]; kernel_rfl) | (rw [if_neg (by decide +kernel)]; exact ⟨rfl, rfl⟩))
    (fun os started H enc _ => viewAlike_lifted os started H enc)
end Go.Proofs.Ytjhhncahlijohaa
