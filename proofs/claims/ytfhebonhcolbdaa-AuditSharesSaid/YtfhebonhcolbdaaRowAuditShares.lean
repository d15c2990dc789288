/- Of any configuration and rows the shares tell how many rows each part owns. -/
import Derived.Test.YtfhebonhcolbdaaLaw24c
import Derived.Test.YtfhebonhcolbdaaOpenR
import Derived.Test.YtfhebonhcolbdaaOpen
import Derived.Test.YtfhebonhcolbdaaFacts
set_option linter.unusedVariables false
set_option linter.unusedSimpArgs false
namespace Go.Proofs.Ytfhebonhcolbdaa
open Go.ChangeShapes Go.WideShapes Go.ChangeAt Go.RowKit
set_option maxRecDepth 100000 in
theorem auditShares_lifted (os : Os) (started : os.Started) (H : Type) (enc : TypeId × Value → H) :
    ReturnsInHanded {} Try.checked os 6 .any (Rows.auditSharesSpec.pre6 enc Try.prog Try.f6 Rows.auditSharesRow.domain false) (Rows.auditSharesSpec.post enc Try.prog Try.f6 false true false false) := by
  refine returnsInHanded_of_change_sized (C := Try.checked) own started (by kernel_rfl) Try.func6
    (ChangeSpec.witness6 (enc := enc) (C := Try.checked) false ⟨#[], #[.agg #[.int .i64 0, .int .i64 0, .slice none 0 0, .slice none 0 0, .slice none 0 0], .slice none 0 0], []⟩ 8 (by kernel_rfl) (by kernel_rfl) (by kernel_rfl) (by kernel_rfl)) ?_
  intro W base args ds gs before hval0 hW hcnd hsz0 _
  have hsz : (DataW.weightsEach Try.prog (Try.f6.params.toList ++ Rows.auditSharesSpec.plain.varTypes Try.prog) (ds ++ gs)).all (· ≤ reachBytes) = true := hsz0
  have hval : ∀ (j : Nat) t v, Try.f6.params[j]? = some t → args[j]? = some v → Value.okWide Try.prog W .any base t v := hval0
  have hW' := hW
  obtain ⟨p, q, hA0, hV, rfl, hfz, hnd⟩ := hW
  have hA : DataW.TrodAll enc Try.prog W 0 (fun _ => true) true Try.f6.params.toList args.toList ds p := hA0
  rw [Try.params6] at hA hval hsz
  obtain ⟨v0, vs0, d0, ds0, p0, q0, hargs, rfl, rfl, h0, r0⟩ := trodAll_cons hA
  obtain ⟨v1, vs1, d1, ds1, p1, q1, rfl, rfl, rfl, h1, r1⟩ := trodAll_cons r0
  obtain ⟨rfl, rfl, rfl⟩ := trodAll_nil r1
  obtain rfl : args = #[v0, v1] := by cases args; simp_all
  obtain ⟨rfl, rfl⟩ := trodVars_none hV
  have k0 := h0
  have lt0 : ∀ x ∈ p0, x.block < W.heap.size := by obtain ⟨m, hm⟩ := k0; exact DataW.trod_lt m _ _ _ hm
  obtain ⟨c0, hc0⟩ := open_cfg (hval 0 26 v0 rfl rfl) h0 (weights_each hsz (j := 0) rfl rfl)
  have k1 := h1
  have lt1 : ∀ x ∈ p1, x.block < W.heap.size := by obtain ⟨m, hm⟩ := k1; exact DataW.trod_lt m _ _ _ hm
  obtain ⟨c1, hc1⟩ := open_rows (hval 1 27 v1 rfl rfl) h1 (weights_each hsz (j := 1) rfl rfl)
  clear hA0 hval0 hsz0 hsz
  refine (auditShares_any c0 v0 c1 v1 W hc0 hc1).mono fun e W' ⟨he, bel⟩ => ?_
  subst he
  exact ⟨_, rfl, _, _, _, [], _, [], hW', trodAll_mk1 (shut_bool Try.underlying4 _), trodAll_mk2 (Below.trod laidOut (by kernel_rfl) (of_decide_eq_true (by kernel_rfl)) k0 bel lt0) (Below.trod laidOut (by kernel_rfl) (of_decide_eq_true (by kernel_rfl)) k1 bel lt1), rfl, bel.frame _, fun h => by cases h⟩
theorem auditShares_named : Try.checked.prog.funcNamed Rows.auditSharesRow.func = some 6 := by kernel_rfl
theorem auditShares_wf : Rows.auditSharesRow.wf (OpenSpec.ofChange Rows.auditSharesSpec) = true := by kernel_rfl
theorem auditShares_inPlace : (Rows.auditSharesRow.inPlace == Try.checked.prog.inPlace 6) = true := by kernel_rfl
theorem auditShares_unf : (Rows.auditSharesRow.unfollowed == Try.checked.prog.unfollowed 6) = true := by kernel_rfl
theorem auditShares_rec : (Rows.auditSharesRow.recurses == Try.checked.prog.recurses 6) = true := by kernel_rfl
theorem auditShares_nam : (Rows.auditSharesRow.named == Try.checked.prog.varsNamed 6) = true := by kernel_rfl
theorem auditShares_pk : (Rows.auditSharesRow.plainKeys == Try.checked.prog.plainKeys) = true := by kernel_rfl
theorem auditShares_tie : namedTie Try.checked.prog Rows.auditSharesRow.named Rows.auditSharesSpec.vars = true := by kernel_rfl
theorem auditShares_par : Try.f6.params.all (Try.checked.prog.readableRec ·) = true := by kernel_rfl
theorem auditShares_facts : joinedFacts Try.checked.prog 6 Try.f6 Rows.auditSharesSpec Rows.auditSharesRow = true := by
  have a1 := auditShares_wf
  have hl : (Rows.auditSharesRow.lifted == Try.checked.prog.liftsFinal) = true := by rw [show Try.checked.prog.liftsFinal = false from fc_lifts]; rfl
  have hm : (Try.checked.prog.make == some Rows.auditSharesRow.make) = true := by rw [show Try.checked.prog.make = some Make.cut from fc_make]; rfl
  unfold joinedFacts
  rw [auditShares_wf, auditShares_inPlace, auditShares_unf, auditShares_rec, auditShares_nam, auditShares_pk, auditShares_tie, auditShares_par, show laidOutB Try.checked.prog = true from fc_laidOut, show mapsRowed Try.checked.prog = true from fc_mapsRowed, show (Try.checked.prog.stops == []) = true from fc_stops, show (Try.checked.prog.stopKnobs == []) = true from fc_stopKnobs, show Try.checked.prog.stopsHeard = true from fc_heard, show Try.checked.prog.mayEnter = true from fc_mayEnter, hl, hm]
  show (_ : Bool) = true
  kernel_rfl
theorem auditShares_holds : Rows.AuditSharesSaid :=
  OpenClaim.holds_of_wide 6 Try.f6 rfl rfl rfl rfl rfl rfl rfl ⟨rfl, rfl, rfl, rfl, rfl⟩ rfl rfl rfl rfl rfl auditShares_named Try.func6 auditShares_facts
    (of_decide_eq_true (by kernel_rfl)) (by unfold Func.isWrapper; first | (rw [if_pos (by decide +kernel)]; kernel_rfl) | (rw [if_neg (by decide +kernel)]; exact ⟨rfl, rfl⟩))
    (fun os started H enc _ => auditShares_lifted os started H enc)
end Go.Proofs.Ytfhebonhcolbdaa
