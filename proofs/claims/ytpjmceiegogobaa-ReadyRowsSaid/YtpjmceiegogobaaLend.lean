/- law0's LendJobs, KeptJobs, SpoilJobs. -/
import Derived.Test.YtpjmceiegogobaaJobC
import Derived.Test.YtpjmceiegogobaaPutR
set_option linter.unusedVariables false
set_option linter.unusedSimpArgs false
namespace Go.Proofs.Ytpjmceiegogobaa
open Go.RowKit

def mkJ : Job := ⟨77777, 0, 0, 0, 0, 0, 0⟩
theorem own_job {W : World} {B g n cap : Nat} {es : List Job} (h : W.ownsRow B 24 7 (.slice (some ⟨g, 0, none⟩) n cap) n (es.flatMap jobCells)) (hn : es.length = n) {k : Nat} (hk : k < es.length) : JobAt W g (k * 7) es[k] := by
  subst hn
  obtain ⟨_, _, e, -, -, -, hc⟩ := flatJob.slice (B := 0) h (by omega)
  obtain ⟨b', o', e', hq⟩ := hc (by intro h; rw [h] at hk; simp at hk)
  injection e with e _ _
  rw [e'] at e
  injection e with e
  injection e with e1 e2
  subst e1; subst e2
  have := hq k hk
  rwa [Nat.zero_add] at this
theorem JobsV.at'' {w : World} {b off n cap : Nat} {js : List Job} (h : JobsV w (.slice (some ⟨b, off, none⟩) n cap) js) {k : Nat} (hk : k < js.length) : JobAt w b (off + k * 7) js[k] := h.at' hk
theorem JobRow.of {W : World} {B n : Nat} {v : Value} {es : List Job} (hn : es.length = n) (h : W.ownsRow B 24 7 v n (es.flatMap jobCells)) : JobRow W B v es := by
  subst hn
  exact h
/-- A row that was lent: marked room behind it. -/
def Lent (W : World) (B : Nat) (v : Value) (js : List Job) : Prop := ∃ g cap, v = .slice (some ⟨g, 0, none⟩) js.length cap ∧ W.ownsRow B 24 7 (.slice (some ⟨g, 0, none⟩) (js.length + 2) cap) (js.length + 2) ((js ++ [mkJ, mkJ]).flatMap jobCells)
theorem Lent.jobs {W : World} {B : Nat} {v : Value} {js : List Job} (h : Lent W B v js) (hB : js.length * 56 ≤ 140737488351232) : JobsV W v js := by
  obtain ⟨g, cap, rfl, h⟩ := h
  have hl : (js ++ [mkJ, mkJ]).length = js.length + 2 := by simp
  obtain ⟨_, hcap, hm⟩ : True ∧ js.length + 2 ≤ cap ∧ cap ≤ maxLen := by
    rcases h.2 with ⟨h, _⟩ | ⟨g', c', cur, e, _, _, hnc, hcm, _⟩
    · cases h
    · injection e with _ _ e
      subst e
      exact ⟨trivial, hnc, hcm⟩
  refine ⟨_, cap, rfl, hB, by omega, hm, fun _ => ⟨g, 0, rfl, fun i hi => ?_⟩⟩
  have := own_job h hl (k := i) (by rw [hl]; omega)
  rwa [List.getElem_append_left hi, ← Nat.zero_add (i * 7)] at this
theorem Lent.kept {W W' : World} {B : Nat} {v : Value} {js : List Job} (h : Lent W B v js) (hb : Below W.heap.size W W') : Lent W' B v js := by
  obtain ⟨g, cap, e, h⟩ := h
  exact ⟨g, cap, e, Below.kept h hb⟩
set_option maxRecDepth 100000 in
set_option maxHeartbeats 2000000 in
theorem lendJobs_any (v : Value) (js : List Job) (w : World) (hv : JobsV w v js) (hsm : js.length * 56 ≤ 140737488351232) :
    Calls Try.prog 8 #[v] w fun e w' => ∃ v', e = .returned v' ∧ Lent w' w.heap.size v' js ∧ Below w.heap.size w w' := by
  obtain ⟨a, cap, rfl, -, -, -, -⟩ := id hv
  have HV := Lib.hid hv
  have hl : js.length ≤ 2513169434844 := by omega
  clear hv
  go_enter Try.func8, Try.ntmps8
  go_wp2_with fail
  refine (copyJobs_any _ js _ HV.out).mono ?_
  rintro e w1 ⟨v1, rfl, hr, hb⟩
  have HR := Lib.hid hr
  have HB := Lib.hid hb
  have HS := Lib.hid (show Src (w1.alloc (.cells #[.int .i64 77777, .int .i64 0, .int .i64 0, .int .i64 0, .int .i64 0, .int .i64 0, .int .i64 0, .int .i64 77777, .int .i64 0, .int .i64 0, .int .i64 0, .int .i64 0, .int .i64 0, .int .i64 0] 24)) (.slice (some ⟨w1.heap.size, 0, none⟩) 2 2) 2 ([mkJ, mkJ].flatMap jobCells) from
    .inr ⟨_, _, rfl, fun j u hu => by
      have h := BlockIs.of (blk_new w1 (.cells #[.int .i64 77777, .int .i64 0, .int .i64 0, .int .i64 0, .int .i64 0, .int .i64 0, .int .i64 0, .int .i64 77777, .int .i64 0, .int .i64 0, .int .i64 0, .int .i64 0, .int .i64 0, .int .i64 0] 24)) j u (by simpa [mkJ, jobCells] using hu)
      rw [addr_add]
      simpa using h⟩)
  clear hr hb
  go_wp2_with (at_builtin; refine wpList_onto _ rfl (.tmp 5) (.tmp 8) 22 rfl w.heap.size 24 _ 7 56 Try.underlying22 infoJob rfl (by decide) v1 js.length _ rfl (Below.kept HR.out (balloc _ _)) 2 _ HS.out (flat_len _ _ flatJob.len _) (flat_one flatJob _) (by simp only [maxLen] at *; omega) (by omega) (by have := HB.out.size; simp; omega) ?_)
  intro v2 w2 hown hg
  have HB2 := Lib.hid (HB.out.trans (((Below.refl w.heap.size w1).alloc HB.out.size _).grown hg (by have := HB.out.size; simp; omega) (fun q hq => (HR.out.lt q hq).1)))
  have HL := Lib.hid (show w2.ownsRow w.heap.size 24 7 v2 (js.length + 2) ((js ++ [mkJ, mkJ]).flatMap jobCells) by rw [List.flatMap_append]; exact hown)
  rcases hown.2 with ⟨_, h0⟩ | ⟨g, c, cur, rfl, _, _, hnc, hcm, _⟩
  · omega
  clear hown hg
  have c1 : (0 : Int) ≤ (js.length : Int) := by omega
  have c2 : (js.length : Int) ≤ (c : Int) := by omega
  go_wp2_with fail
  go_ret
  exact ⟨_, rfl, ⟨g, c, rfl, HL.out⟩, HB2.out⟩
set_option maxRecDepth 100000 in
set_option maxHeartbeats 2000000 in
theorem keptJobs_any (v v0 : Value) (B : Nat) (js : List Job) (w : World) (hl : Lent w B v js) (hv : JobsV w v0 js) (hsm : js.length * 56 ≤ 140737488351232) :
    Calls Try.prog 20 #[v, v0] w fun e w' => e = .returned (.bool true) ∧ Below w.heap.size w w' := by
  have HJ := Lib.hid (hl.jobs (by omega))
  obtain ⟨g, c, rfl, hr⟩ := hl
  obtain ⟨a, cap, rfl, -, -, -, -⟩ := id hv
  have HV := Lib.hid hv
  have hcap : js.length + 2 ≤ c ∧ c ≤ maxLen := by
    rcases hr.2 with ⟨h, _⟩ | ⟨g', c', cur, e, _, _, hnc, hcm, _⟩
    · cases h
    · injection e with _ _ e
      subst e
      exact ⟨by omega, by omega⟩
  have hlen : (js ++ [mkJ, mkJ]).length = js.length + 2 := by simp
  have hm1 := own_job hr hlen (k := js.length) (by rw [hlen]; omega)
  have hm2 := own_job hr hlen (k := js.length + 1) (by rw [hlen]; omega)
  simp only [List.getElem_append_right (Nat.le_refl _), Nat.sub_self, List.getElem_cons_zero] at hm1
  rw [List.getElem_append_right (by omega)] at hm2
  simp only [Nat.add_sub_cancel_left, List.getElem_cons_succ, List.getElem_cons_zero] at hm2
  have HM := Lib.hid (And.intro hm1 hm2)
  clear hv hr hm1 hm2
  go_enter Try.func20, Try.ntmps20
  have c1 : (0 : Int) ≤ (js.length : Int) := by omega
  have c2 : IntKind.i64.wrap ((js.length : Int) + 2) = (js.length : Int) + 2 := by rw [IntKind.wrap_i64]; omega
  have c3 : (js.length : Int) + 2 ≤ (c : Int) := by omega
  have c4 : (0 : Int) ≤ (js.length : Int) + 2 := by omega
  have c5 : ((js.length : Int) + 2).toNat = js.length + 2 := by omega
  have c6 : IntKind.i64.wrap ((js.length : Int) + 1) = (js.length : Int) + 1 := by rw [IntKind.wrap_i64]; omega
  have c7 : ((js.length : Int) + 1).toNat = js.length + 1 := by omega
  have c8 : (js.length : Int) < (js.length : Int) + 2 := by omega
  have c9 : (js.length : Int) + 1 < (js.length : Int) + 2 := by omega
  have c10 : (0 : Int) ≤ (js.length : Int) + 1 := by omega
  go_wp2_with fail
  refine (sameJobs_any _ _ js _ HJ.out HV.out).mono ?_
  rintro e w1 ⟨rfl, hb⟩
  have HB := Lib.hid hb
  obtain ⟨y0, y1, y2, y3, y4, y5, y6⟩ := HM.out.1.ext (Ext.below hb)
  obtain ⟨z0, z1, z2, z3, z4, z5, z6⟩ := HM.out.2.ext (Ext.below hb)
  unfold IntAt at y0 y1 y2 y3 y4 y5 y6 z0 z1 z2 z3 z4 z5 z6
  simp only [mkJ, Nat.zero_add] at y0 y1 y2 y3 y4 y5 y6 z0 z1 z2 z3 z4 z5 z6
  clear hb
  go_wp2_with fail
  go_ret
  exact ⟨rfl, HB.out⟩
set_option maxRecDepth 100000 in
set_option maxHeartbeats 2000000 in
theorem spoilJobs_any (v : Value) (B : Nat) (js : List Job) (w : World) (hr : JobRow w B v js) (hsm : js.length * 56 ≤ 140737488351232) :
    Calls Try.prog 17 #[v] w fun e w' => e = .returned (.tuple #[]) ∧ w.grownBy w' v.ownBlock := by
  obtain ⟨va, vc, e⟩ := own_shape hr
  have hl : js.length ≤ 2513169434844 := by omega
  have HR := Lib.hid hr
  subst e
  clear hr
  go_enter Try.func17, Try.ntmps17
  go_wp2_with fail
  go_loopw [2] (fun i wr => ∃ k : Nat, k ≤ js.length ∧ i = .int .i64 k ∧ (∃ es : List Job, es.length = js.length ∧ Hid (JobRow wr B (.slice va js.length vc) es)) ∧ Hid (w.grownBy wr (Value.slice va js.length vc).ownBlock)) (fun i _ => js.length - (intOf i).toNat)
  case atStart => exact ⟨0, by omega, rfl, ⟨js, rfl, HR⟩, Lib.hid (World.grownBy.refl w _)⟩
  case round =>
    obtain ⟨k, hk, rfl, ⟨es, he, HE⟩, HG⟩ := hrel
    by_cases hlt : k < js.length
    · rcases HE.out.2 with ⟨h, h0⟩ | ⟨g, c, cur, e, hBg, hheap, hnc, hcm, hlen, htake⟩
      · omega
      · injection e with e1 e2 e3
        subst e1
        subst e3
        have hke : k < es.length := by omega
        have hj := (JobRow.jobs HE.out (by omega)).at'' hke
        obtain ⟨y0, -⟩ := hj
        unfold IntAt at y0
        simp only [Nat.zero_add] at y0
        have f0 := thaw hheap (k * 7)
        have HEE := Lib.hid he
        clear hheap hnc hcm hlen htake he
        go_wp2_with fail
        have hE : wr.ownsRow B 24 7 (.slice (some ⟨g, 0, none⟩) js.length vc) js.length (es.flatMap jobCells) := by have h := HE.out; unfold JobRow at h; rwa [HEE.out] at h
        have hN := own_set hE (k * 7) (.int .i64 (bits BinOp.xor IntKind.i64 es[k].task 90))
        rw [flat_set es k hke] at hN
        refine ⟨⟨k + 1, by omega, rfl, ⟨_, ?_, Lib.hid (JobRow.of ?_ hN)⟩, Lib.hid (grown_trans HG.out (set_grown _ _ _ _))⟩, by simp [intOf]; omega⟩
        · rw [List.length_set, HEE.out]
        · rw [List.length_set, HEE.out]
    · obtain rfl : k = js.length := by omega
      go_wp2_with fail
      go_end0
      exact ⟨rfl, HG.out⟩
end Go.Proofs.Ytpjmceiegogobaa
