/- Chapter 12's law ReadyRows. -/
import Derived.Test.YtpjmceiegogobaaLaw12f
import Derived.Test.YtpjmceiegogobaaRegJ
import Derived.Deep.CutBlock
set_option linter.unusedVariables false
set_option linter.unusedSimpArgs false
namespace Go.Proofs.Ytpjmceiegogobaa
open Go.RowKit

theorem IntsV.get {w : World} {v : Value} {xs : List Int} (h : IntsV w v xs) {k : Nat} (hk : k < xs.length) : ∃ b off cap, v = .slice (some ⟨b, off, none⟩) xs.length cap ∧ IntAt w b (off + k) xs[k] := by
  obtain ⟨a, cap, e, -, -, -, hc⟩ := h
  obtain ⟨b, off, rfl, hq⟩ := hc (by rintro rfl; simp at hk)
  have := hq k hk
  rw [Nat.mul_one] at this
  exact ⟨b, off, cap, e, this⟩
def RkV (r : Value) (b off n cap k : Nat) (z p q t : Int) (i : Nat) (v : Value) : Prop := match i with
  | 0 => v = r
  | 1 => v = .slice (some ⟨b, off, none⟩) n cap
  | 2 => v = .int .i64 (k : Int)
  | 3 => v = .pointer (some ⟨b, off + k, none⟩)
  | 4 => v = .int .i64 z
  | 5 => v = .int .i64 p
  | 6 => v = .slice (some ⟨b, off, none⟩) n cap
  | 7 => v = .int .i64 (k : Int)
  | 8 => v = .pointer (some ⟨b, off + k, none⟩)
  | 9 => v = .int .i64 z
  | 10 => v = .int .i64 (z / 8)
  | 11 => v = .int .i64 q
  | 12 => v = .slice (some ⟨b, off, none⟩) n cap
  | 13 => v = .int .i64 (k : Int)
  | 14 => v = .pointer (some ⟨b, off + k, none⟩)
  | 15 => v = .int .i64 z
  | 16 => v = .int .i64 (z / 64)
  | 17 => v = .int .i64 t
  | 18 => v = jobV (jobK p q t)
  | _ => True
theorem pv_upd {PV : Nat → Value → Prop} {L : Nat → Bool} {vs : Nat → Value} (h : ∀ i, L i = true → PV i (vs i)) {k : Nat} {v : Value} (hv : PV k v) : ∀ i, updB L k i = true → PV i (upd vs k v i) := by
  intro i hi
  unfold updB at hi
  unfold upd
  by_cases e : i = k
  · rw [if_pos e, e]; exact hv
  · rw [if_neg e] at hi ⊢; exact h i hi
/-- What holds while the region runs that draws a job from a pick. -/
structure RkInv (w : World) (r : Value) (all : List Job) (J : Job) (PV : Nat → Value → Prop) (L : Nat → Bool) (vs : Nat → Value) (W : World) : Prop where
  pv : ∀ i, L i = true → PV i (vs i)
  below : Below w.heap.size w W
  row : L 20 = false → JobRow W w.heap.size r all
  new : L 20 = false → L 19 = true → ∃ g, vs 19 = .slice (some ⟨g, 0, none⟩) 1 1 ∧ W.heap[g]? = some (.cells (jobCells J).toArray 24 (0, 0))
  res : L 20 = true → JobRow W w.heap.size (vs 20) (all ++ [J])
  out : L 21 = true → vs 21 = vs 20
  old : L 21 = false → vs 21 = r
theorem RkInv.keep {w : World} {r : Value} {all : List Job} {J : Job} {PV : Nat → Value → Prop} {L : Nat → Bool} {vs : Nat → Value} {W W' : World} (h : RkInv w r all J PV L vs W) (hb : Below W.heap.size W W') : RkInv w r all J PV L vs W' :=
  ⟨h.pv, bthen h.below hb, fun a => Below.kept (h.row a) hb, fun a c => by obtain ⟨g, h1, h2⟩ := h.new a c; exact ⟨g, h1, keep_at h2 hb⟩, fun a => Below.kept (h.res a) hb, h.out, h.old⟩
set_option maxRecDepth 100000 in
set_option maxHeartbeats 8000000 in
theorem readyRows_any (xs : List Int) (v : Value) (w : World) (hv : IntsV w v xs) :
    Calls Try.prog 4 #[v] w fun e w' => e = .returned (.bool true) ∧ Below w.heap.size w w' := by
  obtain ⟨a, cap, rfl, hsm, -, -, -⟩ := id hv
  have HV := Lib.hid hv
  clear hv
  go_enter Try.func4, Try.ntmps4
  go_wp2_with fail
  refine (awake12 _).mono ?_
  rintro e w1 ⟨rfl, hb⟩
  have HB1 := Lib.hid hb
  clear hb
  go_upto_block 0 with (fail)
  go_cut [5] (fun r wx => ∃ all : List Job, all.length ≤ 16 ∧ Hid (∀ y ∈ all, Good y) ∧ Hid (JobRow wx w.heap.size r all) ∧ Hid (Below w.heap.size w wx))
  case first =>
    go_wp2_with fail
    go_loopw [5, 6] (fun r i wr => ∃ k : Nat, k ≤ xs.length ∧ k ≤ 16 ∧ i = .int .i64 k ∧ ∃ all : List Job, all.length = k ∧ Hid (∀ y ∈ all, Good y) ∧ Hid (JobRow wr w.heap.size r all) ∧ Hid (Below w.heap.size w wr)) (fun _ i _ => 16 - (intOf i).toNat)
    case atStart => exact ⟨0, by omega, by omega, rfl, [], rfl, Lib.hid (fun y h => by simp at h), Lib.hid (World.ownsRow_nil _ _ _ _), HB1⟩
    case round =>
      obtain ⟨k, hk, hk16, rfl, all, hal, HG, HR, HB⟩ := hrel
      by_cases hlt : k < xs.length
      · by_cases h16 : k < 16
        · have c1 : (k : Int) < 16 := by omega
          obtain ⟨b, off, cp, e, hy⟩ := HV.out.get hlt
          injection e with e _ e3
          subst e
          subst e3
          have HYW := Lib.hid hy
          obtain ⟨p, hp⟩ : ∃ p, p = bits BinOp.and IntKind.i64 xs[k] 7 := ⟨_, rfl⟩
          obtain ⟨q, hq⟩ : ∃ q, q = bits BinOp.and IntKind.i64 (xs[k] / 8) 7 := ⟨_, rfl⟩
          obtain ⟨t, ht⟩ : ∃ t, t = bits BinOp.and IntKind.i64 (xs[k] / 64) 3 := ⟨_, rfl⟩
          have HJ := Lib.hid (show Good (jobK p q t) from ⟨p, q, t, by rw [hp, i64_and7]; omega, by rw [hp, i64_and7]; omega, by rw [hq, i64_and7]; omega, by rw [hq, i64_and7]; omega, by rw [ht, i64_and3]; omega, by rw [ht, i64_and3]; omega, rfl⟩)
          have HPQ := Lib.hid (And.intro hp.symm (And.intro hq.symm ht.symm))
          clear hy hp hq ht
          go_wp2_with fail
          refine region_inv0 rfl (by kernel_rfl) (RkInv w u5 all (jobK p q t) (RkV u5 b off xs.length cap k xs[k] p q t)) (fun vs h0 => ⟨(fun i h => by cases h), below_drew HB.out, (fun _ => Below.kept HR.out (below_drew (Below.refl _ _))), (fun _ h => by cases h), (fun h => by cases h), (fun h => by cases h), (fun _ => h0 21 5 rfl)⟩) ?_ ?_
          · simp (config := { maxSteps := 4000000 }) only [List.map, putAll, Act.put, InvE, List.setIfInBounds_toArray, List.set_cons_succ, List.set_cons_zero, Nat.reduceAdd]
            refine ⟨?_, ?_, ?_, ?_, ?_, ?_, ?_, ?_, ?_, ?_, ?_, ?_, ?_, ?_, ?_, ?_, ?_, ?_, ?_, ?_, ?_, ?_, trivial⟩
            all_goals
              intro L vs W hI hi hn hcl K hK
              rw [if_pos (by simp [Region.wanted])]
            · have h21 : L 21 = false := by
                cases h : L 21
                · rfl
                · exact absurd (hcl 20 _ rfl (hcl 21 _ rfl h 20 rfl) 0 rfl) (Bool.eq_false_iff.1 hi)
              have e21 := hI.old h21
              simp only [e21] at hK ⊢
              have HK := Lib.hid (fun v h => hK v W ⟨pv_upd hI.pv h, hI.below, hI.row, hI.new, hI.res, hI.out, hI.old⟩)
              clear hK hI hn hcl
              go_simp
              exact HK.out _ rfl
            · have HK := Lib.hid (fun v h => hK v W ⟨pv_upd hI.pv h, hI.below, hI.row, hI.new, hI.res, hI.out, hI.old⟩)
              clear hK hI hn hcl
              go_simp
              exact HK.out _ rfl
            · have HK := Lib.hid (fun v h => hK v W ⟨pv_upd hI.pv h, hI.below, hI.row, hI.new, hI.res, hI.out, hI.old⟩)
              clear hK hI hn hcl
              go_simp
              exact HK.out _ rfl
            · have r1 : vs 1 = .slice (some ⟨b, off, none⟩) xs.length cap := hI.pv 1 (hn 1 rfl)
              have r2 : vs 2 = .int .i64 (k : Int) := hI.pv 2 (hn 2 rfl)
              simp only [r1, r2] at hK ⊢
              have HK := Lib.hid (fun v h => hK v W ⟨pv_upd hI.pv h, hI.below, hI.row, hI.new, hI.res, hI.out, hI.old⟩)
              clear hK hI hn hcl
              go_simp
              exact HK.out _ rfl
            · have r3 : vs 3 = .pointer (some ⟨b, off + k, none⟩) := hI.pv 3 (hn 3 rfl)
              have y0 := Ext.below hI.below _ _ HYW.out
              simp only [r3] at hK ⊢
              have HK := Lib.hid (fun v h => hK v W ⟨pv_upd hI.pv h, hI.below, hI.row, hI.new, hI.res, hI.out, hI.old⟩)
              clear hK hI hn hcl
              go_simp
              exact HK.out _ rfl
            · have r4 : vs 4 = .int .i64 xs[k] := hI.pv 4 (hn 4 rfl)
              have e0 := HPQ.out.1
              simp only [r4] at hK ⊢
              have HK := Lib.hid (fun v h => hK v W ⟨pv_upd hI.pv h, hI.below, hI.row, hI.new, hI.res, hI.out, hI.old⟩)
              clear hK hI hn hcl
              go_simp
              exact HK.out _ rfl
            · have HK := Lib.hid (fun v h => hK v W ⟨pv_upd hI.pv h, hI.below, hI.row, hI.new, hI.res, hI.out, hI.old⟩)
              clear hK hI hn hcl
              go_simp
              exact HK.out _ rfl
            · have HK := Lib.hid (fun v h => hK v W ⟨pv_upd hI.pv h, hI.below, hI.row, hI.new, hI.res, hI.out, hI.old⟩)
              clear hK hI hn hcl
              go_simp
              exact HK.out _ rfl
            · have r6 : vs 6 = .slice (some ⟨b, off, none⟩) xs.length cap := hI.pv 6 (hn 6 rfl)
              have r7 : vs 7 = .int .i64 (k : Int) := hI.pv 7 (hn 7 rfl)
              simp only [r6, r7] at hK ⊢
              have HK := Lib.hid (fun v h => hK v W ⟨pv_upd hI.pv h, hI.below, hI.row, hI.new, hI.res, hI.out, hI.old⟩)
              clear hK hI hn hcl
              go_simp
              exact HK.out _ rfl
            · have r8 : vs 8 = .pointer (some ⟨b, off + k, none⟩) := hI.pv 8 (hn 8 rfl)
              have y0 := Ext.below hI.below _ _ HYW.out
              simp only [r8] at hK ⊢
              have HK := Lib.hid (fun v h => hK v W ⟨pv_upd hI.pv h, hI.below, hI.row, hI.new, hI.res, hI.out, hI.old⟩)
              clear hK hI hn hcl
              go_simp
              exact HK.out _ rfl
            · have r9 : vs 9 = .int .i64 xs[k] := hI.pv 9 (hn 9 rfl)
              simp only [r9] at hK ⊢
              have HK := Lib.hid (fun v h => hK v W ⟨pv_upd hI.pv h, hI.below, hI.row, hI.new, hI.res, hI.out, hI.old⟩)
              clear hK hI hn hcl
              go_simp
              exact HK.out _ rfl
            · have r10 : vs 10 = .int .i64 (xs[k] / 8) := hI.pv 10 (hn 10 rfl)
              have e0 := HPQ.out.2.1
              simp only [r10] at hK ⊢
              have HK := Lib.hid (fun v h => hK v W ⟨pv_upd hI.pv h, hI.below, hI.row, hI.new, hI.res, hI.out, hI.old⟩)
              clear hK hI hn hcl
              go_simp
              exact HK.out _ rfl
            · have HK := Lib.hid (fun v h => hK v W ⟨pv_upd hI.pv h, hI.below, hI.row, hI.new, hI.res, hI.out, hI.old⟩)
              clear hK hI hn hcl
              go_simp
              exact HK.out _ rfl
            · have HK := Lib.hid (fun v h => hK v W ⟨pv_upd hI.pv h, hI.below, hI.row, hI.new, hI.res, hI.out, hI.old⟩)
              clear hK hI hn hcl
              go_simp
              exact HK.out _ rfl
            · have r12 : vs 12 = .slice (some ⟨b, off, none⟩) xs.length cap := hI.pv 12 (hn 12 rfl)
              have r13 : vs 13 = .int .i64 (k : Int) := hI.pv 13 (hn 13 rfl)
              simp only [r12, r13] at hK ⊢
              have HK := Lib.hid (fun v h => hK v W ⟨pv_upd hI.pv h, hI.below, hI.row, hI.new, hI.res, hI.out, hI.old⟩)
              clear hK hI hn hcl
              go_simp
              exact HK.out _ rfl
            · have r14 : vs 14 = .pointer (some ⟨b, off + k, none⟩) := hI.pv 14 (hn 14 rfl)
              have y0 := Ext.below hI.below _ _ HYW.out
              simp only [r14] at hK ⊢
              have HK := Lib.hid (fun v h => hK v W ⟨pv_upd hI.pv h, hI.below, hI.row, hI.new, hI.res, hI.out, hI.old⟩)
              clear hK hI hn hcl
              go_simp
              exact HK.out _ rfl
            · have r15 : vs 15 = .int .i64 xs[k] := hI.pv 15 (hn 15 rfl)
              simp only [r15] at hK ⊢
              have HK := Lib.hid (fun v h => hK v W ⟨pv_upd hI.pv h, hI.below, hI.row, hI.new, hI.res, hI.out, hI.old⟩)
              clear hK hI hn hcl
              go_simp
              exact HK.out _ rfl
            · have r16 : vs 16 = .int .i64 (xs[k] / 64) := hI.pv 16 (hn 16 rfl)
              have e0 := HPQ.out.2.2
              simp only [r16] at hK ⊢
              have HK := Lib.hid (fun v h => hK v W ⟨pv_upd hI.pv h, hI.below, hI.row, hI.new, hI.res, hI.out, hI.old⟩)
              clear hK hI hn hcl
              go_simp
              exact HK.out _ rfl
            · have r5 : vs 5 = .int .i64 p := hI.pv 5 (hn 5 rfl)
              have r11 : vs 11 = .int .i64 q := hI.pv 11 (hn 11 rfl)
              have r17 : vs 17 = .int .i64 t := hI.pv 17 (hn 17 rfl)
              simp only [r5, r11, r17] at hK ⊢
              have HK := Lib.hid hK
              have HI := Lib.hid hI
              clear hK hI hn hcl
              go_simp
              go_at_call 22
              refine (jobK_any p q t _).mono ?_
              rintro e w' ⟨rfl, hb⟩
              have k1 := HI.out.keep hb
              exact HK.out _ w' ⟨pv_upd k1.pv rfl, k1.below, k1.row, k1.new, k1.res, k1.out, k1.old⟩
            · have r18 : vs 18 = jobV (jobK p q t) := hI.pv 18 (hn 18 rfl)
              simp only [r18] at hK ⊢
              have HK := Lib.hid hK
              have HI := Lib.hid hI
              clear hK hI hn hcl
              go_simp
              have k1 := HI.out.keep (balloc W (.cells (jobCells (jobK p q t)).toArray 24))
              exact HK.out _ _ ⟨pv_upd k1.pv trivial, k1.below, k1.row, fun _ _ => ⟨W.heap.size, rfl, blk_new _ _⟩, k1.res, k1.out, k1.old⟩
            · have r0 : vs 0 = u5 := hI.pv 0 (hn 0 rfl)
              have h20 : L 20 = false := hi
              have h21 : L 21 = false := by
                cases h : L 21
                · rfl
                · exact absurd (hcl 21 _ rfl h 20 rfl) (Bool.eq_false_iff.1 h20)
              obtain ⟨g, e19, hg⟩ := hI.new h20 (hn 19 rfl)
              have hr := hI.row h20
              have hsrc : Src W (vs 19) 1 (jobCells (jobK p q t)) := .inr ⟨⟨g, 0, none⟩, 1, e19, fun j u hu => by rw [addr_add]; have h := BlockIs.of hg j u (by simpa using hu); simpa using h⟩
              refine wp_onto _ (.tmp 27) (.tmp 46) 22 rfl w.heap.size 24 _ 7 56 Try.underlying22 infoJob rfl (by decide) u5 all.length _ (hI.pv 0 (hn 0 rfl)) hr 1 (jobCells (jobK p q t)) hsrc rfl (fun u hu => flatJob.one _ u hu) (by simp only [maxLen]; omega) (by omega) hI.below.size ?_
              intro v' w' ho hg2
              refine hK v' w' ⟨pv_upd hI.pv trivial, hI.below.grown hg2 hI.below.size (fun q hq => (hr.lt q hq).1), fun q => absurd q (by simp [updB]), fun q => absurd q (by simp [updB]), fun _ => JobRow.snoc rfl ho, fun q => absurd q (Bool.eq_false_iff.1 h21), hI.old⟩
            · have HK := Lib.hid (fun v h => hK v W ⟨pv_upd hI.pv trivial, hI.below, hI.row, hI.new, hI.res, (fun _ => h), fun q => absurd q (by simp [updB])⟩)
              clear hK hI hn hcl
              go_simp
              exact HK.out _ rfl
          · intro vs W hI
            simp only [List.map, putAll, Act.put, List.setIfInBounds_toArray, List.set_cons_succ, List.set_cons_zero, Nat.reduceAdd]
            have hr := hI.res (by simp)
            have e21 := hI.out (by simp)
            have r0 : vs 0 = u5 := hI.pv 0 (by simp)
            have r1 : vs 1 = .slice (some ⟨b, off, none⟩) xs.length cap := hI.pv 1 (by simp)
            have r2 : vs 2 = .int .i64 (k : Int) := hI.pv 2 (by simp)
            have r3 : vs 3 = .pointer (some ⟨b, off + k, none⟩) := hI.pv 3 (by simp)
            have r4 : vs 4 = .int .i64 xs[k] := hI.pv 4 (by simp)
            have r5 : vs 5 = .int .i64 p := hI.pv 5 (by simp)
            have r6 : vs 6 = .slice (some ⟨b, off, none⟩) xs.length cap := hI.pv 6 (by simp)
            have r7 : vs 7 = .int .i64 (k : Int) := hI.pv 7 (by simp)
            have r8 : vs 8 = .pointer (some ⟨b, off + k, none⟩) := hI.pv 8 (by simp)
            have r9 : vs 9 = .int .i64 xs[k] := hI.pv 9 (by simp)
            have r10 : vs 10 = .int .i64 (xs[k] / 8) := hI.pv 10 (by simp)
            have r11 : vs 11 = .int .i64 q := hI.pv 11 (by simp)
            have r12 : vs 12 = .slice (some ⟨b, off, none⟩) xs.length cap := hI.pv 12 (by simp)
            have r13 : vs 13 = .int .i64 (k : Int) := hI.pv 13 (by simp)
            have r14 : vs 14 = .pointer (some ⟨b, off + k, none⟩) := hI.pv 14 (by simp)
            have r15 : vs 15 = .int .i64 xs[k] := hI.pv 15 (by simp)
            have r16 : vs 16 = .int .i64 (xs[k] / 64) := hI.pv 16 (by simp)
            have r17 : vs 17 = .int .i64 t := hI.pv 17 (by simp)
            have r18 : vs 18 = jobV (jobK p q t) := hI.pv 18 (by simp)
            have HBW := Lib.hid hI.below
            rw [← e21] at hr
            obtain ⟨ra, rc, e5⟩ := own_shape hr
            have HRW := Lib.hid hr
            simp only [r0, r1, r2, r3, r4, r5, r6, r7, r8, r9, r10, r11, r12, r13, r14, r15, r16, r17, r18, ← e21]
            clear hI hr r0 r1 r2 r3 r4 r5 r6 r7 r8 r9 r10 r11 r12 r13 r14 r15 r16 r17 r18
            go_wp2_with fail
            refine ⟨⟨k + 1, by omega, by omega, rfl, all ++ [jobK p q t], by rw [List.length_append, hal]; rfl, Lib.hid (fun y hy => ?_), HRW, HBW⟩, by simp [intOf]; omega⟩
            rcases List.mem_append.1 hy with hy | hy
            · exact HG.out y hy
            · rw [List.mem_singleton.1 hy]; exact HJ.out
        · obtain rfl : k = 16 := by omega
          have c1 : (16 : Int) < (xs.length : Int) := by omega
          go_wp2_with fail
          go_meet
          exact ⟨all, by omega, HG, HR, HB⟩
      · obtain rfl : k = xs.length := by omega
        go_wp2_with fail
        go_meet
        exact ⟨all, by omega, HG, HR, HB⟩
  case rest =>
    obtain ⟨all, h16, HG, HR, HB⟩ := hcut
    have HS := Lib.hid (JobRow.jobs HR.out (by omega))
    obtain ⟨la, lc, rfl, -, -, -, -⟩ := id HS.out
    obtain ⟨n, hn⟩ : ∃ n, n = all.length := ⟨_, rfl⟩
    go_wp2_with fail
    go_loopw [3, 4, 7] (fun u d i wr => ∃ k : Nat, k ≤ all.length ∧ i = .int .i64 k ∧ ∃ up down : List Job, Hid (InvR up (all.take k)) ∧ Hid (InvR down (all.reverse.take k)) ∧ Hid (JobsV wr u up) ∧ Hid (JobsV wr d down) ∧ Hid (Below wc.heap.size wc wr)) (fun _ _ i _ => all.length - (intOf i).toNat)
    case atStart => exact ⟨0, by omega, rfl, [], [], Lib.hid InvR.nil, Lib.hid InvR.nil, Lib.hid (slice0 JobAt 7 56 _), Lib.hid (slice0 JobAt 7 56 _), Lib.hid (Below.refl _ _)⟩
    case round =>
      obtain ⟨k, hk, rfl, up, down, HIU, HID, HU, HD, HBR⟩ := hrel
      by_cases hlt : k < all.length
      · obtain ⟨b, off, cc, e, hy⟩ := (HS.out.ext (Ext.below HBR.out)).get hlt
        injection e with e _ e3
        subst e
        subst e3
        obtain ⟨y0, y1, y2, y3, y4, y5, y6⟩ := hy
        unfold IntAt at y0 y1 y2 y3 y4 y5 y6
        obtain ⟨q, hq⟩ : ∃ q, q = all.length - 1 - k := ⟨_, rfl⟩
        have hql : q < all.length := by omega
        have s1 : IntKind.i64.wrap ((all.length : Int) - 1) = (all.length : Int) - 1 := by rw [IntKind.wrap_i64]; omega
        have s2 : IntKind.i64.wrap ((all.length : Int) - 1 - (k : Int)) = (q : Int) := by rw [IntKind.wrap_i64]; omega
        have hut : all.take (k + 1) = all.take k ++ [all[k]] := by rw [List.take_add_one, List.getElem?_eq_getElem hlt]; rfl
        have hrt : all.reverse.take (k + 1) = all.reverse.take k ++ [all[q]] := by
          have hkr : k < all.reverse.length := by simpa using hlt
          rw [List.take_add_one, List.getElem?_eq_getElem hkr, List.getElem_reverse]
          simp only [hq]
          rfl
        have HS3 := Lib.hid (HS.out.ext (Ext.below HBR.out))
        clear hq
        go_wp2_with fail
        refine (put_any _ up all[k] _ HU.out).mono ?_
        rintro e w4 ⟨va, rfl, -, hr, hb⟩
        have HE := Lib.hid hb
        have HUS := Lib.hid (show InvR (stepR up all[k]) (all.take (k + 1)) by rw [hut]; exact HIU.out.step (fun y hy => HG.out y (List.mem_of_mem_take hy)) (HG.out _ (List.getElem_mem hlt)) (by simp; omega))
        by_cases hu0 : putE up all[k] = 0
        · have eu : stepR up all[k] = putL up all[k] := by unfold stepR; rw [if_pos hu0]
          have HU4 := Lib.hid (JobRow.jobs (hr hu0) (by have := putL_len up all[k]; have := HIU.out.len; simp at this; omega))
          rw [← eu] at HU4
          rw [hu0]
          clear hr hb hu0 eu y0 y1 y2 y3 y4 y5 y6
          obtain ⟨ua, uc, rfl, -, -, -, -⟩ := id HU4.out
          obtain ⟨b2, off2, cc, e, hy⟩ := (HS3.out.ext (Ext.below HE.out)).get hql
          injection e with e _ e3
          injection e with e
          injection e with e1 e2
          subst e1
          subst e2
          subst e3
          obtain ⟨y0, y1, y2, y3, y4, y5, y6⟩ := hy
          unfold IntAt at y0 y1 y2 y3 y4 y5 y6
          go_wp2_with (first | (go_at_call 16; refine (num_any _ _).mono ?_; rintro e w' ⟨rfl, hw⟩; subst w') | fail)
          refine (put_any _ down all[q] _ (HD.out.ext (Ext.below HE.out))).mono ?_
          rintro e w5 ⟨vb, rfl, -, hr, hb⟩
          have HF := Lib.hid (bthen HE.out hb)
          have HUP := Lib.hid (HU4.out.ext (Ext.below hb))
          have HDS := Lib.hid (show InvR (stepR down all[q]) (all.reverse.take (k + 1)) by rw [hrt]; exact HID.out.step (fun y hy => HG.out y (by simpa using List.mem_of_mem_take hy)) (HG.out _ (List.getElem_mem hql)) (by simp; omega))
          by_cases hd0 : putE down all[q] = 0
          · have ed : stepR down all[q] = putL down all[q] := by unfold stepR; rw [if_pos hd0]
            have HDV := Lib.hid (JobRow.jobs (hr hd0) (by have := putL_len down all[q]; have := HID.out.len; simp at this; omega))
            rw [← ed] at HDV
            rw [hd0]
            clear hr hb hd0 ed y0 y1 y2 y3 y4 y5 y6
            obtain ⟨da, dc, rfl, -, -, -, -⟩ := id HDV.out
            go_wp2_with (first | (go_at_call 16; refine (num_any _ _).mono ?_; rintro e w' ⟨rfl, hw⟩; subst w') | fail)
            go_roundw
            case rel => exact ⟨k + 1, by omega, by go_num, _, _, HUS, HDS, HUP, HDV, Lib.hid (bthen HBR.out HF.out)⟩
            case measure => simp [intOf]; omega
          · have ed : stepR down all[q] = down := by unfold stepR; rw [if_neg hd0]
            have HDV := Lib.hid ((HD.out.ext (Ext.below HF.out)))
            rw [ed] at HDS
            obtain ⟨pe, hpe⟩ : ∃ pe, pe = putE down all[q] := ⟨_, rfl⟩
            rw [← hpe] at hd0 ⊢
            have hd0' : (pe == 0) = false := by simpa using hd0
            clear hr hb hd0 ed hpe y0 y1 y2 y3 y4 y5 y6
            go_wp2_with (first | (go_at_call 16; refine (num_any _ _).mono ?_; rintro e w' ⟨rfl, hw⟩; subst w') | fail)
            go_roundw
            case rel => exact ⟨k + 1, by omega, by go_num, _, _, HUS, HDS, HUP, HDV, Lib.hid (bthen HBR.out HF.out)⟩
            case measure => simp [intOf]; omega
        · have eu : stepR up all[k] = up := by unfold stepR; rw [if_neg hu0]
          have HU4 := Lib.hid (HU.out.ext (Ext.below hb))
          rw [eu] at HUS
          obtain ⟨pu, hpu⟩ : ∃ pu, pu = putE up all[k] := ⟨_, rfl⟩
          rw [← hpu] at hu0 ⊢
          have hu0' : (pu == 0) = false := by simpa using hu0
          clear hr hb hu0 eu hpu y0 y1 y2 y3 y4 y5 y6
          obtain ⟨b2, off2, cc, e, hy⟩ := (HS3.out.ext (Ext.below HE.out)).get hql
          injection e with e _ e3
          injection e with e
          injection e with e1 e2
          subst e1
          subst e2
          subst e3
          obtain ⟨y0, y1, y2, y3, y4, y5, y6⟩ := hy
          unfold IntAt at y0 y1 y2 y3 y4 y5 y6
          go_wp2_with (first | (go_at_call 16; refine (num_any _ _).mono ?_; rintro e w' ⟨rfl, hw⟩; subst w') | fail)
          refine (put_any _ down all[q] _ (HD.out.ext (Ext.below HE.out))).mono ?_
          rintro e w5 ⟨vb, rfl, -, hr, hb⟩
          have HF := Lib.hid (bthen HE.out hb)
          have HUP := Lib.hid (HU4.out.ext (Ext.below hb))
          have HDS := Lib.hid (show InvR (stepR down all[q]) (all.reverse.take (k + 1)) by rw [hrt]; exact HID.out.step (fun y hy => HG.out y (by simpa using List.mem_of_mem_take hy)) (HG.out _ (List.getElem_mem hql)) (by simp; omega))
          by_cases hd0 : putE down all[q] = 0
          · have ed : stepR down all[q] = putL down all[q] := by unfold stepR; rw [if_pos hd0]
            have HDV := Lib.hid (JobRow.jobs (hr hd0) (by have := putL_len down all[q]; have := HID.out.len; simp at this; omega))
            rw [← ed] at HDV
            rw [hd0]
            clear hr hb hd0 ed y0 y1 y2 y3 y4 y5 y6
            obtain ⟨da, dc, rfl, -, -, -, -⟩ := id HDV.out
            go_wp2_with (first | (go_at_call 16; refine (num_any _ _).mono ?_; rintro e w' ⟨rfl, hw⟩; subst w') | fail)
            go_roundw
            case rel => exact ⟨k + 1, by omega, by go_num, _, _, HUS, HDS, HUP, HDV, Lib.hid (bthen HBR.out HF.out)⟩
            case measure => simp [intOf]; omega
          · have ed : stepR down all[q] = down := by unfold stepR; rw [if_neg hd0]
            have HDV := Lib.hid ((HD.out.ext (Ext.below HF.out)))
            rw [ed] at HDS
            obtain ⟨pe, hpe⟩ : ∃ pe, pe = putE down all[q] := ⟨_, rfl⟩
            rw [← hpe] at hd0 ⊢
            have hd0' : (pe == 0) = false := by simpa using hd0
            clear hr hb hd0 ed hpe y0 y1 y2 y3 y4 y5 y6
            go_wp2_with (first | (go_at_call 16; refine (num_any _ _).mono ?_; rintro e w' ⟨rfl, hw⟩; subst w') | fail)
            go_roundw
            case rel => exact ⟨k + 1, by omega, by go_num, _, _, HUS, HDS, HUP, HDV, Lib.hid (bthen HBR.out HF.out)⟩
            case measure => simp [intOf]; omega
      · obtain rfl : k = all.length := by omega
        rw [List.take_length] at HIU
        have hrl : all.reverse.take all.length = all.reverse := by rw [← List.length_reverse]; exact List.take_length
        rw [hrl] at HID
        obtain rfl := HIU.out.ext HID.out
        have HB2 := Lib.hid (bthen HB.out HBR.out)
        have hul : up.length ≤ 16 := by have := HIU.out.len; omega
        clear hrl
        go_wp2_with fail
        refine (sameJobs_any _ _ up _ HU.out HD.out).mono ?_
        rintro e w4 ⟨rfl, hb⟩
        have HB4 := Lib.hid (bthen HB2.out hb)
        have HU4 := Lib.hid (HU.out.ext (Ext.below hb))
        clear hb
        go_wp2_with fail
        refine (readyMay_any _ up _ HU4.out).mono ?_
        rw [HIU.out.may]
        rintro e w5 ⟨rfl, hb⟩
        have HB5 := Lib.hid (bthen HB4.out hb)
        have HU5 := Lib.hid (HU4.out.ext (Ext.below hb))
        clear hb
        go_wp2_with fail
        refine (first_any _ up _ HU5.out).mono ?_
        rintro e w6 ⟨rfl, hb⟩
        obtain ⟨fj, hfj⟩ : ∃ fj, fj = firstJ up := ⟨_, rfl⟩
        obtain ⟨fi, hfi⟩ : ∃ fi, fi = firstIs up := ⟨_, rfl⟩
        have hfe : fi = decide (0 < (all.length : Int)) := by
          rw [hfi]
          unfold firstIs
          rw [HIU.out.may, Bool.and_true]
          cases all with
          | nil => have := HIU.out.len; cases up with | nil => rfl | cons => simp at this
          | cons y r =>
            have hy := (HIU.out.mem y).2 (List.mem_cons_self ..)
            cases up with
            | nil => simp at hy
            | cons => simp
        rw [← hfj, ← hfi]
        have HF := Lib.hid (And.intro hfj hfe)
        obtain ⟨w7, hw_w7⟩ : ∃ w7, w7 = w6.alloc (.cells #[.int .i64 fj.task, .int .i64 fj.seq, .int .i64 fj.prio, .int .i64 fj.release, .int .i64 fj.deadline, .int .i64 fj.demand, .int .i64 fj.used] 24) := ⟨_, rfl⟩
        obtain ⟨b7, hg_b7⟩ : ∃ b7, b7 = w6.heap.size := ⟨_, rfl⟩
        have hb_w7 : Below w6.heap.size w6 w7 := by rw [hw_w7]; exact balloc _ _
        have hk_b7 : w7.heap[b7]? = some (.cells #[.int .i64 fj.task, .int .i64 fj.seq, .int .i64 fj.prio, .int .i64 fj.release, .int .i64 fj.deadline, .int .i64 fj.demand, .int .i64 fj.used] 24 (0, 0)) := by rw [hw_w7, hg_b7]; exact blk_new _ _
        have hs_w7 : w7.heap.size = w6.heap.size + 1 := by rw [hw_w7]; simp
        have HB7 := Lib.hid (bthen HB5.out (bthen hb hb_w7))
        have HU7 := Lib.hid (HU5.out.ext (Ext.below (bthen hb hb_w7)))
        have HZ := Lib.hid (BlockIs.of hk_b7 2 _ rfl)
        clear hb hb_w7 hs_w7 hk_b7 hfj hfi hfe
        obtain ⟨ua, uc, rfl, -, -, -, -⟩ := id HU.out
        go_wp2_with fail
        rw [← hw_w7, ← hg_b7]
        clear hw_w7 hg_b7
        go_loopw [14] (fun i wr => ∃ k : Nat, k ≤ up.length ∧ i = .int .i64 k ∧ Hid (Below w7.heap.size w7 wr)) (fun i _ => up.length - (intOf i).toNat)
        case atStart => exact ⟨0, by omega, rfl, Lib.hid (Below.refl _ _)⟩
        case round =>
          obtain ⟨k, hk, rfl, HBk⟩ := hrel
          by_cases hlt : k < up.length
          · obtain ⟨b, off, cc, e, hy⟩ := (HU7.out.ext (Ext.below HBk.out)).get hlt
            injection e with e _ e3
            subst e
            subst e3
            have y2 := hy.2.2.1
            have z2 := Ext.below HBk.out _ _ HZ.out
            unfold IntAt at y2
            have hle := first_least HIU.out.may hlt
            rw [← HF.out.1] at hle
            have f1 : decide (up[k].prio < fj.prio) = false := decide_eq_false (by omega)
            clear hy hle
            go_wp2_with fail
            go_quiet (fail)
            go_wp2_with fail
            go_roundw
            case rel => exact ⟨k + 1, by omega, by go_num, Lib.hid (below_drewN HBk.out _)⟩
            case measure => simp [intOf]; omega
          · obtain rfl : k = up.length := by omega
            have HB8 := Lib.hid (bthen HB7.out HBk.out)
            go_wp2_with fail
            go_ret
            exact ⟨ret_bool (by rw [HF.out.2, Bool.eq_iff_iff]; simp), HB8.out⟩
end Go.Proofs.Ytpjmceiegogobaa
