/- ready.Put. -/
import Derived.Test.YtpjmceiegogobaaJob3
import Derived.Test.YtpjmceiegogobaaIns
import Derived.Test.YtpjmceiegogobaaBs
set_option linter.unusedVariables false
set_option linter.unusedSimpArgs false
namespace Go.Proofs.Ytpjmceiegogobaa
open Go.RowKit

set_option maxRecDepth 100000 in
set_option maxHeartbeats 400000 in
theorem cloneJob_raw (v : Value) (n : Nat) (w : World) (a : Option Addr) (cap : Nat) (news : List Value) (hv : v = .slice a n cap) (hsrc : Src w v n news) (hl : news.length = n * 7) (h1 : ∀ u ∈ news, u.oneCell' = true) (h2 : n * 56 ≤ 140737488351232) (h3 : n ≤ cap) (h4 : cap ≤ maxLen) :
    Calls Try.prog 28 #[v] w fun e w' => ∃ v', e = .returned v' ∧ w'.ownsRow w.heap.size 24 7 v' n news ∧ Below w.heap.size w w' := by
  subst hv
  have hrun := fun W => Lib.run_eql_slice_nil (P := Try.prog) W 22 24 a n cap 0 0 Try.underlying22
  rcases a with _ | ad
  · have hn : n = 0 ∧ news = [] := by
      rcases hsrc with ⟨c, -, h, h'⟩ | ⟨ad, c, h, -⟩
      · exact ⟨h, h'⟩
      · injection h with h; cases h
    obtain ⟨rfl, rfl⟩ := hn
    clear hsrc
    go_enter Try.func28, Try.ntmps28
    go_wp2_with fail
    go_ret
    exact ⟨_, rfl, World.ownsRow_nil _ _ _ _, Below.refl _ _⟩
  · have hsrc2 : Src (w.alloc (.cells #[] 24)) (.slice (some ad) n cap) n news := by
      rcases hsrc with ⟨c, h, -⟩ | ⟨ad', c, h, hc⟩
      · injection h with h; cases h
      · injection h with h h' h''
        injection h with h
        subst h; subst h''
        exact .inr ⟨_, _, rfl, fun j u hu => Ext.alloc _ _ _ _ (hc j u hu)⟩
    have HS := Lib.hid hsrc2
    clear hsrc hsrc2
    have HL := Lib.hid (And.intro hl h1)
    clear hl h1
    go_enter Try.func28, Try.ntmps28
    go_wp2_with (at_builtin; refine wpList_onto _ rfl (.tmp 5) (.tmp 6) 22 rfl w.heap.size 24 _ 7 56 Try.underlying22 infoJob rfl (by decide) _ 0 [] rfl (own_lit w _ _) n news HS.out HL.out.1 HL.out.2 (by simp only [maxLen] at h4 ⊢; omega) (by omega) (by simp) ?_)
    intro v' w' hown hg
    have hown' : w'.ownsRow w.heap.size 24 7 v' n news := by simpa using hown
    have hb : Below w.heap.size w w' := (balloc w (.cells #[] 24)).grown hg (by simp) (fun k hk => by simp [Value.ownBlock] at hk; omega)
    have HB := Lib.hid (And.intro hown' hb)
    obtain ⟨a', c', rfl⟩ := own_shape hown'
    clear hown hown' hb hg
    go_wp2_with fail
    go_ret
    exact ⟨_, rfl, HB.out.1, HB.out.2⟩
theorem cloneJob_any (v : Value) (xs : List Job) (w : World) (hv : JobsV w v xs) :
    Calls Try.prog 28 #[v] w fun e w' => ∃ v', e = .returned v' ∧ JobRow w' w.heap.size v' xs ∧ Below w.heap.size w w' := by
  have hs := flatJob.src hv
  obtain ⟨a, cap, hv1, h2, h3, h4, -⟩ := hv
  exact cloneJob_raw v xs.length w a cap _ hv1 hs (flat_len _ _ flatJob.len xs) (flat_one flatJob xs) h2 h3 h4
theorem ahead_trans {a b c : Job} (h1 : ahead a b = true) (h2 : ahead b c = true) : ahead a c = true := by
  unfold ahead at *
  simp only [decide_eq_true_eq] at *
  omega
theorem jobsMay_iff (js : List Job) : jobsMay js = true ↔ (∀ i, i < js.length → okAt js i = true) ∧ js.length ≤ 16 := by
  unfold jobsMay
  simp [List.all_eq_true]
theorem jobsMay_next {js : List Job} (h : jobsMay js = true) {i : Nat} (hi : i + 1 < js.length) : ahead js[i] js[i + 1] = true := by
  have := ((jobsMay_iff js).1 h).1 (i + 1) hi
  unfold okAt at this
  rw [getD_at hi, Nat.add_sub_cancel, getD_at (show i < js.length by omega)] at this
  simpa using (Bool.and_eq_true_iff.1 this).2
theorem jobsMay_lt {js : List Job} (h : jobsMay js = true) : ∀ (d i : Nat) (hd : i + d + 1 < js.length), ahead (js[i]'(by omega)) js[i + d + 1] = true
  | 0, i, hd => jobsMay_next h hd
  | d + 1, i, hd => ahead_trans (jobsMay_lt h d i (by omega)) (jobsMay_next h (i := i + d + 1) hd)
theorem jobsMay_down {js : List Job} (h : jobsMay js = true) (x : Job) : ∀ a b (hb : b < js.length) (hab : a ≤ b), ahead js[b] x = true → ahead (js[a]'(by omega)) x = true := by
  intro a b hb hab hx
  by_cases he : a = b
  · subst he; exact hx
  · obtain ⟨d, rfl⟩ : ∃ d, b = a + d + 1 := ⟨b - a - 1, by omega⟩
    exact ahead_trans (jobsMay_lt h d a hb) hx
set_option maxRecDepth 100000 in
set_option maxHeartbeats 400000 in
theorem place_any (rb : Nat) (v : Value) (js : List Job) (x : Job) (w : World) (hr : w.cell? ⟨rb, 0, none⟩ = some v) (hv : JobsV w v js) (hm : jobsMay js = true) :
    Calls Try.prog 26 #[.pointer (some ⟨rb, 0, none⟩), jobV x] w fun e w' => e = .returned (.tuple #[.int .i64 (pos js x), .bool (hit js x)]) ∧ Below w.heap.size w w' := by
  have hl : js.length ≤ 1000000 := by have := ((jobsMay_iff js).1 hm).2; omega
  have hb0 := balloc w (.cells #[.int .i64 x.task, .int .i64 x.seq, .int .i64 x.prio, .int .i64 x.release, .int .i64 x.deadline, .int .i64 x.demand, .int .i64 x.used] 24)
  have hx0 : ∀ j u, (jobCells x)[j]? = some u → (w.alloc (.cells #[.int .i64 x.task, .int .i64 x.seq, .int .i64 x.prio, .int .i64 x.release, .int .i64 x.deadline, .int .i64 x.demand, .int .i64 x.used] 24)).cell? ⟨w.heap.size, j, none⟩ = some u := fun j u hu => box_at j (by simpa [jobCells] using hu)
  have HX := Lib.hid (And.intro hb0 (And.intro hx0 (And.intro hr (And.intro hv (jobsMay_down hm x)))))
  obtain ⟨a, cap, rfl, -⟩ := hv
  clear hr hm hb0 hx0
  go_enter Try.func26, Try.ntmps26
  go_wp2_with fail
  obtain ⟨wz, hwz⟩ : ∃ wz, wz = w.alloc (.cells #[.int .i64 x.task, .int .i64 x.seq, .int .i64 x.prio, .int .i64 x.release, .int .i64 x.deadline, .int .i64 x.demand, .int .i64 x.used] 24) := ⟨_, rfl⟩
  obtain ⟨bx, hbx⟩ : ∃ bx, bx = w.heap.size := ⟨_, rfl⟩
  obtain ⟨hb0, hx0, hr, hv, hs⟩ := HX.out
  have r0 := Ext.below hb0 _ _ hr
  have HV := Lib.hid (JobsV.ext (Ext.below hb0) hv)
  have HB := Lib.hid hb0
  have HS := Lib.hid hs
  rw [← hwz] at r0 HV HB hx0 ⊢
  rw [← hbx] at hx0 ⊢
  have hD : Below wz.heap.size wz wz.drew := below_drew (Below.refl _ _)
  have hS0 : (fun w' : World => w'.cell? ⟨rb, 0, none⟩ = some (.slice a js.length cap) ∧ w'.cell? ⟨bx, 0, none⟩ = some (.int .i64 x.task) ∧ w'.cell? ⟨bx, 1, none⟩ = some (.int .i64 x.seq) ∧ w'.cell? ⟨bx, 2, none⟩ = some (.int .i64 x.prio) ∧ w'.cell? ⟨bx, 3, none⟩ = some (.int .i64 x.release) ∧ w'.cell? ⟨bx, 4, none⟩ = some (.int .i64 x.deadline) ∧ w'.cell? ⟨bx, 5, none⟩ = some (.int .i64 x.demand) ∧ w'.cell? ⟨bx, 6, none⟩ = some (.int .i64 x.used) ∧ Below wz.heap.size wz w') wz.drew := ⟨r0, hx0 0 _ rfl, hx0 1 _ rfl, hx0 2 _ rfl, hx0 3 _ rfl, hx0 4 _ rfl, hx0 5 _ rfl, hx0 6 _ rfl, hD⟩
  have kS : ∀ W W' : World, (fun w' : World => w'.cell? ⟨rb, 0, none⟩ = some (.slice a js.length cap) ∧ w'.cell? ⟨bx, 0, none⟩ = some (.int .i64 x.task) ∧ w'.cell? ⟨bx, 1, none⟩ = some (.int .i64 x.seq) ∧ w'.cell? ⟨bx, 2, none⟩ = some (.int .i64 x.prio) ∧ w'.cell? ⟨bx, 3, none⟩ = some (.int .i64 x.release) ∧ w'.cell? ⟨bx, 4, none⟩ = some (.int .i64 x.deadline) ∧ w'.cell? ⟨bx, 5, none⟩ = some (.int .i64 x.demand) ∧ w'.cell? ⟨bx, 6, none⟩ = some (.int .i64 x.used) ∧ Below wz.heap.size wz w') W → Below W.heap.size W W' → (fun w' : World => w'.cell? ⟨rb, 0, none⟩ = some (.slice a js.length cap) ∧ w'.cell? ⟨bx, 0, none⟩ = some (.int .i64 x.task) ∧ w'.cell? ⟨bx, 1, none⟩ = some (.int .i64 x.seq) ∧ w'.cell? ⟨bx, 2, none⟩ = some (.int .i64 x.prio) ∧ w'.cell? ⟨bx, 3, none⟩ = some (.int .i64 x.release) ∧ w'.cell? ⟨bx, 4, none⟩ = some (.int .i64 x.deadline) ∧ w'.cell? ⟨bx, 5, none⟩ = some (.int .i64 x.demand) ∧ w'.cell? ⟨bx, 6, none⟩ = some (.int .i64 x.used) ∧ Below wz.heap.size wz w') W' := by
    rintro W W' ⟨b0, b1, b2, b3, b4, b5, b6, b7, hB⟩ hb
    exact ⟨Ext.below hb _ _ b0, Ext.below hb _ _ b1, Ext.below hb _ _ b2, Ext.below hb _ _ b3, Ext.below hb _ _ b4, Ext.below hb _ _ b5, Ext.below hb _ _ b6, Ext.below hb _ _ b7, bthen hB hb⟩
  clear hwz hbx hb0 hx0 hr hv hs r0 HX
  go_region_held3 (fun w' : World => w'.cell? ⟨rb, 0, none⟩ = some (.slice a js.length cap) ∧ w'.cell? ⟨bx, 0, none⟩ = some (.int .i64 x.task) ∧ w'.cell? ⟨bx, 1, none⟩ = some (.int .i64 x.seq) ∧ w'.cell? ⟨bx, 2, none⟩ = some (.int .i64 x.prio) ∧ w'.cell? ⟨bx, 3, none⟩ = some (.int .i64 x.release) ∧ w'.cell? ⟨bx, 4, none⟩ = some (.int .i64 x.deadline) ∧ w'.cell? ⟨bx, 5, none⟩ = some (.int .i64 x.demand) ∧ w'.cell? ⟨bx, 6, none⟩ = some (.int .i64 x.used) ∧ Below wz.heap.size wz w') (first | exact hS0 | exact kS _ _ hS0 hb1) ((go_at_call 34; refine (bsearch_any _ js x _ (HV.out.ext (Ext.below hD)) HS.out hl).mono ?_; rintro e w1 ⟨rfl, hb1⟩))
  have HB1 := Lib.hid (HB.out.trans ((bthen hD hb1).mono HB.out.size))
  clear hS0 kS hb1 hD
  go_wp2_with fail
  go_ret2
  exact ⟨rfl, HB1.out⟩
end Go.Proofs.Ytpjmceiegogobaa
