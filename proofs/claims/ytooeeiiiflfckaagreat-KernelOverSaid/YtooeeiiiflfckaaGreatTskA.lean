/- Several texts of this claim as one. -/
import Derived.Test.YtooeeiiiflfckaaGreatChkA
import Derived.Test.YtooeeiiiflfckaaGreatLibA
import Derived.Test.YtooeeiiiflfckaaGreatProg
/- Tasks' turns: (*task.pair).may, soon, comes. -/
set_option linter.unusedVariables false
set_option linter.unusedSimpArgs false
namespace Go.Proofs.YtooeeiiiflfckaaGreat
open Go.RowKit
structure Turns where
 last : Int
 picks : List Int
def demP (d : Int) : Bool := decide (1 <= d /\ d <= 65535)
def pairMay (t : Task) (s : Turns) : Bool := taskMay t && decide (-1 <= s.last) && decide (s.last <= 1099511627776) && decide (s.picks.length <= 4) && !(s.picks.any (fun d => !demP d))
def soonB (t : Task) (s : Turns) (now : Int) : Bool := decide (s.last = -1) || decide (s.last + t.period <= now)
def comesB (t : Task) (s : Turns) (now : Int) : Bool := if t.kind = 0 then decide (now % t.period = 0) else decide (0 < s.picks.length) && soonB t s now
def PairAt (W : World) (pb : Nat) (t : Task) (s : Turns) (pv : Value) : Prop :=
 W.heap[pb]? = some (.cells #[.int .i64 t.kind, .int .i64 t.period, .int .i64 t.deadline, .int .i64 t.clow, .int .i64 t.chigh, .int .i64 t.prio, .int .i64 s.last, pv] 243 (0, 0)) /\ IntsV W pv s.picks
theorem PairAt.keep {W W' : World} {pb : Nat} {t : Task} {s : Turns} {pv : Value} (h : PairAt W pb t s pv) (hb : Below W.heap.size W W') : PairAt W' pb t s pv := ⟨keep_at h.1 hb, h.2.ext (Ext.below hb)⟩
set_option maxRecDepth 100000 in
set_option maxHeartbeats 400000 in
theorem badInt_any (d : Int) (w : World) : Calls Tryz.prog 145 #[.int .i64 d] w fun e w' => e = .returned (.bool (!demP d)) /\ w' = w := by
 go_enter Tryz.func145, Tryz.ntmps145
 go_wp2_with fail
 refine (demandMay_any _ _).mono ?_
 rintro e w1 ⟨rfl, rfl⟩
 go_wp2_with fail
 go_ret
 exact ⟨ret_bool (by unfold demP; rw [Bool.decide_and, Bool.not_and]), rfl⟩
set_option maxRecDepth 100000 in
set_option maxHeartbeats 400000 in
theorem indexInt_any (v : Value) (xs : List Int) (w : World) (hv : IntsV w v xs) :
  Calls Tryz.prog 153 #[v, .func (.func 145) #[] #[]] w fun e w' => e = .returned (.int .i64 (findI (fun d => !demP d) xs)) /\ Below w.heap.size w w' := by
 obtain ⟨a, c, rfl, hv1, hv2, hv3, hv4⟩ := hv
 have HV := Lib.hid hv4
 clear hv4
 have hl1 : xs.length <= 1000000000000000000 := by omega
 go_enter Tryz.func153, Tryz.ntmps153
 go_wp2_with fail
 go_loopw [5, 8] (fun _ i wr => ∃ (k : Nat), k <= xs.length /\ i = .int .i64 k /\ Hid (∀ j (hj : j < xs.length), j < k -> (!demP xs[j]) = false) /\ Below w.heap.size w wr) (fun _ i _ => xs.length - (intOf i).toNat)
 case atStart => exact ⟨0, by omega, rfl, Lib.hid (fun j hj h => by omega), Below.refl _ _⟩
 case round =>
  obtain ⟨k, hk, rfl, HD, hB⟩ := hrel
  have HB := Lib.hid hB
  clear hB
  by_cases hlt : k < xs.length
  ·obtain ⟨b, off, rfl, hcell⟩ := HV.out (by intro h; rw [h] at hlt; simp at hlt)
   have y0 := IntAt.ext (Ext.below HB.out) (hcell k hlt)
   unfold IntAt at y0
   rw [Nat.mul_one] at y0
   clear hcell
   go_wp2_with fail
   refine (badInt_any _ _).mono ?_
   rintro e w1 ⟨rfl, rfl⟩
   cases hp : (!demP xs[k])
   ·have HP := Lib.hid hp
    clear hp
    go_wp2_with fail
    go_roundw
    case rel => exact ⟨k + 1, by omega, by go_num, Lib.hid (fun j hj h => by rcases Nat.lt_succ_iff_lt_or_eq.1 h with h | rfl; exact HD.out j hj h; exact HP.out), HB.out⟩
    case measure => simp [intOf]; omega
   ·have HP := Lib.hid hp
    clear hp
    go_wp2_with fail
    go_ret
    exact ⟨ret_int (findI_at (fun d => !demP d) xs k hlt HP.out HD.out).symm, HB.out⟩
  ·go_wp2_with fail
   go_ret
   exact ⟨ret_int (findI_none (fun d => !demP d) xs (fun j hj => HD.out j hj (by omega))).symm, HB.out⟩
set_option maxRecDepth 100000 in
set_option maxHeartbeats 400000 in
theorem containsInt_any (v : Value) (xs : List Int) (w : World) (hv : IntsV w v xs) :
  Calls Tryz.prog 146 #[v, .func (.func 145) #[] #[]] w fun e w' => e = .returned (.bool (xs.any (fun d => !demP d))) /\ Below w.heap.size w w' := by
 have HI := Lib.hid (indexInt_any v xs w hv)
 clear hv
 go_enter Tryz.func146, Tryz.ntmps146
 go_wp2_with fail
 refine HI.out.mono ?_
 rintro e w1 ⟨rfl, hb⟩
 go_wp2_with fail
 go_ret
 exact ⟨ret_bool (findI_any _ xs), hb⟩
set_option maxRecDepth 100000 in
set_option maxHeartbeats 1000000 in
theorem pairMay_any (pb : Nat) (t : Task) (s : Turns) (pv : Value) (w : World) (hp : PairAt w pb t s pv) :
  Calls Tryz.prog 130 #[.pointer (some ⟨pb, 0, none⟩)] w fun e w' => e = .returned (.bool (pairMay t s)) /\ Below w.heap.size w w' := by
 have HP := Lib.hid hp
 obtain ⟨hk, hi⟩ := hp
 obtain ⟨a, cap, rfl, -⟩ := id hi
 have HK := Lib.hid hk
 have y0 := BlockIs.of hk 0 _ rfl
 have y1 := BlockIs.of hk 1 _ rfl
 have y2 := BlockIs.of hk 2 _ rfl
 have y3 := BlockIs.of hk 3 _ rfl
 have y4 := BlockIs.of hk 4 _ rfl
 have y5 := BlockIs.of hk 5 _ rfl
 have y6 := BlockIs.of hk 6 _ rfl
 have y7 := BlockIs.of hk 7 _ rfl
 clear hk hi
 go_enter Tryz.func130, Tryz.ntmps130
 go_wp2_with fail
 refine (taskMay_any t _).mono ?_
 rintro e w1 ⟨rfl, hb⟩
 have HB := Lib.hid hb
 have HP1 := Lib.hid (HP.out.keep hb)
 have hk := keep_at HK.out hb
 clear hb y0 y1 y2 y3 y4 y5 y6 y7
 have y6 := BlockIs.of hk 6 _ rfl
 have y7 := BlockIs.of hk 7 _ rfl
 clear hk
 cases h0 : taskMay t
 ·have HE := Lib.hid (show false = pairMay t s by unfold pairMay; rw [h0]; rfl)
  go_wp2_with fail
  go_ret
  exact ⟨ret_bool HE.out, HB.out⟩
 ·by_cases h1 : -1 <= s.last
  ·by_cases h2 : s.last <= 1099511627776
   ·by_cases h3 : s.picks.length <= 4
    ·have HE := Lib.hid (show (!(s.picks.any (fun d => !demP d))) = pairMay t s by unfold pairMay; rw [h0, decide_eq_true h1, decide_eq_true h2, decide_eq_true h3]; simp)
     have h3' : (s.picks.length : Int) <= 4 := by omega
     go_wp2_with fail
     refine (containsInt_any _ s.picks _ HP1.out.2).mono ?_
     rintro e w2 ⟨rfl, hb⟩
     have HB2 := Lib.hid (bthen HB.out hb)
     clear hb
     go_wp2_with fail
     go_ret
     exact ⟨ret_bool HE.out, HB2.out⟩
    ·have HE := Lib.hid (show false = pairMay t s by unfold pairMay; rw [decide_eq_false h3]; simp)
     have h3' : ¬ (s.picks.length : Int) <= 4 := by omega
     go_wp2_with fail
     go_ret
     exact ⟨ret_bool HE.out, HB.out⟩
   ·have HE := Lib.hid (show false = pairMay t s by unfold pairMay; rw [decide_eq_false h2]; simp)
    go_wp2_with fail
    go_ret
    exact ⟨ret_bool HE.out, HB.out⟩
  ·have HE := Lib.hid (show false = pairMay t s by unfold pairMay; rw [decide_eq_false h1]; simp)
   go_wp2_with fail
   go_ret
   exact ⟨ret_bool HE.out, HB.out⟩
theorem pairMay_task {t : Task} {s : Turns} (h : pairMay t s = true) : taskMay t = true /\ -1 <= s.last /\ s.last <= 1099511627776 /\ s.picks.length <= 4 /\ (∀ d ∈ s.picks, demP d = true) /\ (t.kind = 0 ∨ t.kind = 1) /\ 1 <= t.period /\ t.period <= 1024 := by
 unfold pairMay at h
 simp only [Bool.and_eq_true, decide_eq_true_eq, Bool.not_eq_true', List.any_eq_false] at h
 obtain ⟨⟨⟨⟨h0, h1⟩, h2⟩, h3⟩, h4⟩ := h
 have h5 := h0
 unfold taskMay at h5
 simp only [decide_eq_true_eq] at h5
 exact ⟨h0, h1, h2, h3, fun d hd => by have := h4 d hd; simpa using this, h5.1, h5.2.1, h5.2.2.1⟩
set_option maxRecDepth 100000 in
set_option maxHeartbeats 1000000 in
theorem soon_any (pb : Nat) (t : Task) (s : Turns) (pv : Value) (now : Int) (w : World) (hp : PairAt w pb t s pv) (hm : pairMay t s = true) :
  Calls Tryz.prog 132 #[.pointer (some ⟨pb, 0, none⟩), .int .i64 now] w fun e w' => e = .returned (.bool (soonB t s now)) /\ Below w.heap.size w w' := by
 obtain ⟨hk, hi⟩ := hp
 obtain ⟨-, hl1, hl2, -, -, -, hp1, hp2⟩ := pairMay_task hm
 have y1 := BlockIs.of hk 1 _ rfl
 have y6 := BlockIs.of hk 6 _ rfl
 have hw1 : IntKind.i64.wrap (s.last + t.period) = s.last + t.period := by rw [IntKind.wrap_i64]; omega
 clear hk hi hm
 go_enter Tryz.func132, Tryz.ntmps132
 by_cases h0 : s.last = -1
 ·have h0' : (s.last == -1) = true := by simpa using h0
  have HE := Lib.hid (show true = soonB t s now by unfold soonB; rw [decide_eq_true h0]; rfl)
  clear h0 hw1
  go_wp2_with fail
  go_quiet (fail)
  go_wp2_with fail
  go_ret
  exact ⟨ret_bool HE.out, below_drewN (Below.refl _ _) _⟩
 ·have h0' : (s.last == -1) = false := by simpa using h0
  have HE := Lib.hid (show decide (s.last + t.period <= now) = soonB t s now by unfold soonB; rw [decide_eq_false h0]; rfl)
  clear h0
  go_wp2_with fail
  go_quiet (fail)
  go_wp2_with fail
  go_ret
  exact ⟨ret_bool HE.out, below_drewN (Below.refl _ _) _⟩
set_option maxRecDepth 100000 in
set_option maxHeartbeats 1000000 in
theorem comes_any (pb : Nat) (t : Task) (s : Turns) (pv : Value) (now : Int) (w : World) (hp : PairAt w pb t s pv) (hm : pairMay t s = true) (hn : 0 <= now) (hn1 : now <= 1099511627776) :
  Calls Tryz.prog 134 #[.pointer (some ⟨pb, 0, none⟩), .int .i64 now] w fun e w' => e = .returned (.bool (comesB t s now)) /\ Below w.heap.size w w' := by
 have HP := Lib.hid hp
 obtain ⟨hk, hi⟩ := hp
 obtain ⟨a, cap, rfl, -⟩ := id hi
 obtain ⟨-, hl1, hl2, -, -, -, hp1, hp2⟩ := pairMay_task hm
 have HM := Lib.hid hm
 have y0 := BlockIs.of hk 0 _ rfl
 have y1 := BlockIs.of hk 1 _ rfl
 have y7 := BlockIs.of hk 7 _ rfl
 clear hk hi hm
 by_cases h0 : t.kind = 0
 ·have h0' : (t.kind == 0) = true := by simpa using h0
  have HE := Lib.hid (show decide (now % t.period = 0) = comesB t s now by unfold comesB; rw [if_pos h0])
  have hpz : t.period ≠ 0 := by omega
  have htm : now.tmod t.period = now % t.period := Int.tmod_eq_emod_of_nonneg hn
  have hw : IntKind.i64.wrap (now % t.period) = now % t.period := by
   rw [IntKind.wrap_i64]
   have := Int.emod_nonneg now hpz
   have := Int.emod_lt_of_pos now (show 0 < t.period by omega)
   omega
  clear h0
  go_enter Tryz.func134, Tryz.ntmps134
  go_wp2_with fail
  go_ret
  exact ⟨ret_bool HE.out, Below.refl _ _⟩
 ·have h0' : (t.kind == 0) = false := by simpa using h0
  have HE0 := Lib.hid (show (decide (0 < s.picks.length) && soonB t s now) = comesB t s now by unfold comesB; rw [if_neg h0])
  clear h0
  go_enter Tryz.func134, Tryz.ntmps134
  by_cases hl : 0 < s.picks.length
  ·have HE := Lib.hid (show soonB t s now = comesB t s now by rw [<- HE0.out, decide_eq_true hl]; rfl)
   go_wp2_with fail
   refine (soon_any pb t s _ now _ HP.out HM.out).mono ?_
   rintro e w1 ⟨rfl, hb⟩
   go_wp2_with fail
   go_ret
   exact ⟨ret_bool HE.out, hb⟩
  ·have HE := Lib.hid (show false = comesB t s now by rw [<- HE0.out, decide_eq_false hl]; rfl)
   go_wp2_with fail
   go_ret
   exact ⟨ret_bool HE.out, Below.refl _ _⟩
end Go.Proofs.YtooeeiiiflfckaaGreat
/- Rows of whole numbers that are a call's own. -/
namespace Go.Proofs.YtooeeiiiflfckaaGreat
open Go.RowKit
theorem infoInt : (Tryz.prog.info? 3).map (fun i => (i.zero, i.size, i.bytes)) = some (some (.int .i64 0), 1, 8) := by kernel_rfl
def intCell (x : Int) : List Value := [.int .i64 x]
def IntRow (W : World) (B : Nat) (v : Value) (es : List Int) : Prop := W.ownsRow B 3 1 v es.length (es.flatMap intCell)
theorem IntRow.ints {W : World} {B : Nat} {v : Value} {es : List Int} (h : IntRow W B v es) (hB : es.length * 8 <= 140737488351232) : IntsV W v es := flatInt.slice h hB
theorem IntRow.snoc {W : World} {B : Nat} {v : Value} {es : List Int} {x : Int} {n : Nat} (hn : n = es.length) (h : W.ownsRow B 3 1 v (n + 1) (es.flatMap intCell ++ intCell x)) : IntRow W B v (es ++ [x]) := by
 subst hn
 unfold IntRow
 rw [List.length_append, List.flatMap_append]
 simpa using h
theorem IntsV.get {w : World} {v : Value} {xs : List Int} (h : IntsV w v xs) {k : Nat} (hk : k < xs.length) : ∃ b off cap, v = .slice (some ⟨b, off, none⟩) xs.length cap /\ IntAt w b (off + k) xs[k] := by
 obtain ⟨a, cap, e, -, -, -, hc⟩ := h
 obtain ⟨b, off, rfl, hq⟩ := hc (by rintro rfl; simp at hk)
 have := hq k hk
 rw [Nat.mul_one] at this
 exact ⟨b, off, cap, e, this⟩
set_option maxRecDepth 100000 in
set_option maxHeartbeats 400000 in
theorem cloneInt_raw (v : Value) (n : Nat) (w : World) (a : Option Addr) (cap : Nat) (news : List Value) (hv : v = .slice a n cap) (hsrc : Src w v n news) (hl : news.length = n * 1) (h1 : ∀ u ∈ news, u.oneCell' = true) (h2 : n * 8 <= 140737488351232) (h3 : n <= cap) (h4 : cap <= maxLen) :
  Calls Tryz.prog 131 #[v] w fun e w' => ∃ v', e = .returned v' /\ w'.ownsRow w.heap.size 3 1 v' n news /\ Below w.heap.size w w' := by
 subst hv
 have hrun := fun W => Lib.run_eql_slice_nil (P := Tryz.prog) W 75 3 a n cap 0 0 Tryz.underlying75
 rcases a with _ | ad
 ·have hn : n = 0 /\ news = [] := by
   rcases hsrc with ⟨c, -, h, h'⟩ | ⟨ad, c, h, -⟩
   ·exact ⟨h, h'⟩
   ·injection h with h; cases h
  obtain ⟨rfl, rfl⟩ := hn
  clear hsrc
  go_enter Tryz.func131, Tryz.ntmps131
  go_wp2_with fail
  go_ret
  exact ⟨_, rfl, World.ownsRow_nil _ _ _ _, Below.refl _ _⟩
 ·have hsrc2 : Src (w.alloc (.cells #[] 3)) (.slice (some ad) n cap) n news := by
   rcases hsrc with ⟨c, h, -⟩ | ⟨ad', c, h, hc⟩
   ·injection h with h; cases h
   ·injection h with h h' h''
    injection h with h
    subst h; subst h''
    exact .inr ⟨_, _, rfl, fun j u hu => Ext.alloc _ _ _ _ (hc j u hu)⟩
  have HS := Lib.hid hsrc2
  clear hsrc hsrc2
  have HL := Lib.hid (And.intro hl h1)
  clear hl h1
  go_enter Tryz.func131, Tryz.ntmps131
  go_wp2_with (at_builtin; refine wpList_onto _ rfl (.tmp 5) (.tmp 6) 75 rfl w.heap.size 3 _ 1 8 Tryz.underlying75 infoInt rfl (by decide) _ 0 [] rfl (own_lit w _ _) n news HS.out HL.out.1 HL.out.2 (by simp only [maxLen] at h4 |-; omega) (by omega) (by simp) ?_)
  intro v' w' hown hg
  have hown' : w'.ownsRow w.heap.size 3 1 v' n news := by simpa using hown
  have hb : Below w.heap.size w w' := (balloc w (.cells #[] 3)).grown hg (by simp) (fun k hk => by simp [Value.ownBlock] at hk; omega)
  have HB := Lib.hid (And.intro hown' hb)
  obtain ⟨a', c', rfl⟩ := own_shape hown'
  clear hown hown' hb hg
  go_wp2_with fail
  go_ret
  exact ⟨_, rfl, HB.out.1, HB.out.2⟩
theorem cloneInt_any (v : Value) (xs : List Int) (w : World) (hv : IntsV w v xs) :
  Calls Tryz.prog 131 #[v] w fun e w' => ∃ v', e = .returned v' /\ IntRow w' w.heap.size v' xs /\ Below w.heap.size w w' := by
 have hs := flatInt.src hv
 obtain ⟨a, cap, hv1, h2, h3, h4, -⟩ := hv
 exact cloneInt_raw v xs.length w a cap _ hv1 hs (flat_len _ _ flatInt.len xs) (flat_one flatInt xs) h2 h3 h4
end Go.Proofs.YtooeeiiiflfckaaGreat
/- Tasks' turns: task.Pick, task.Late, task.Release (printed by gentsk2.py). -/
namespace Go.Proofs.YtooeeiiiflfckaaGreat
open Go.RowKit
def pickE (t : Task) (s : Turns) (d : Int) : Int := if (pairMay t s && demP d) = false then 1100 else if s.picks.length = 4 then 1101 else 0
def clockB (now : Int) : Bool := decide (0 <= now /\ now <= 1099511627776)
def lateB (t : Task) (s : Turns) (now : Int) : Bool := pairMay t s && clockB now && decide (t.kind = 1) && decide (0 < s.picks.length) && !soonB t s now
def relIs (t : Task) (s : Turns) (now : Int) : Bool := pairMay t s && clockB now && comesB t s now
def relD (t : Task) (s : Turns) : Int := s.picks.headD t.clow
theorem two_keeps {W W1 W2 : World} {g h : Nat} (h1 : W.grownBy W1 (some g)) (h2 : W1.grownBy W2 (some h)) : Keeps (fun k => k = g ∨ k = h) W W2 :=
 (Keeps.of_grown h1 (fun k e => .inl (by injection e with e; exact e.symm))).trans (Keeps.of_grown h2 (fun k e => .inr (by injection e with e; exact e.symm)))
theorem IntsV.one_more {w : World} {b off n cap : Nat} {x : Int} {r : List Int} (h : IntsV w (.slice (some ⟨b, off, none⟩) n cap) (x :: r)) (hr : r ≠ []) : IntsV w (.slice (some ⟨b, off + 1, none⟩) r.length (cap - 1)) r := by
 obtain ⟨a, c, e, h1, h2, h3, h4⟩ := h
 injection e with e1 e2 e3
 subst e1; subst e2; subst e3
 obtain ⟨b', off', e, hc⟩ := h4 (by simp)
 injection e with e
 injection e with e1 e2
 subst e1; subst e2
 simp only [List.length_cons] at h1 h2
 refine ⟨_, _, rfl, by omega, by omega, by omega, fun _ => ⟨b, off + 1, rfl, fun k hk => ?_⟩⟩
 have := hc (k + 1) (by simp; omega)
 simp only [List.getElem_cons_succ] at this
 have e : off + (k + 1) * 1 = off + 1 + k * 1 := by omega
 rw [e] at this
 exact this
theorem IntsV.nil (w : World) (a : Option Addr) (cap : Nat) (h : cap <= maxLen) : IntsV w (.slice a 0 cap) [] := ⟨a, cap, rfl, by simp, by simp, h, fun h => absurd rfl h⟩
set_option maxRecDepth 100000 in
set_option maxHeartbeats 2000000 in
theorem taskPick_any (t : Task) (l0 : Int) (pv : Value) (ps : List Int) (d : Int) (w : World) (hv : IntsV w pv ps) :
  Calls Tryz.prog 105 #[taskV t, .agg #[.int .i64 l0, pv], .int .i64 d] w fun e w' => ∃ l' a' n' c', e = .returned (.tuple #[.agg #[.int .i64 l', .slice a' n' c'], .int .i64 (pickE t ⟨l0, ps⟩ d)]) /\ (pickE t ⟨l0, ps⟩ d = 0 -> l' = l0 /\ IntRow w' w.heap.size (.slice a' n' c') (ps ++ [d])) /\ Below w.heap.size w w' := by
 obtain ⟨a, cap, rfl, hz1, hz2, hz3, -⟩ := id hv
 have HV := Lib.hid hv
 obtain ⟨wa, ga, hw_wa, hg_ga, hb_wa, hk_ga, hs_wa⟩ := alloc_all w (.cells #[.int .i64 t.kind, .int .i64 t.period, .int .i64 t.deadline, .int .i64 t.clow, .int .i64 t.chigh, .int .i64 t.prio] 51)
 obtain ⟨wb, gb, hw_wb, hg_gb, hb_wb, hk_gb, hs_wb⟩ := alloc_all wa (.cells #[.int .i64 l0, .slice a ps.length cap] 143)
 obtain ⟨wc, gc, hw_wc, hg_gc, hb_wc, hk_gc, hs_wc⟩ := alloc_all wb (.cells #[.int .i64 0, .slice none 0 0] 143)
 obtain ⟨wd, gd, hw_wd, hg_gd, hb_wd, hk_gd, hs_wd⟩ := alloc_all wc (.cells #[.int .i64 t.kind, .int .i64 t.period, .int .i64 t.deadline, .int .i64 t.clow, .int .i64 t.chigh, .int .i64 t.prio, .int .i64 l0, .slice a ps.length cap] 243)
 have HBD := Lib.hid (bthen hb_wa (bthen hb_wb (bthen hb_wc hb_wd)))
 have HPA := Lib.hid (show PairAt wd gd t ⟨l0, ps⟩ (.slice a ps.length cap) from ⟨hk_gd, hv.ext (Ext.below HBD.out)⟩)
 have HKB := Lib.hid (keep_at (keep_at hk_gb hb_wc) hb_wd)
 have HKC := Lib.hid (keep_at hk_gc hb_wd)
 have HKD := Lib.hid hk_gd
 have HGS := Lib.hid (show w.heap.size <= gb /\ w.heap.size <= gc /\ gb ≠ gc /\ gc ≠ gd /\ gb ≠ gd /\ w.heap.size <= gd by omega)
 clear hb_wa hb_wb hb_wc hb_wd hk_ga hk_gb hk_gc hk_gd
 clear hv hz1 hz2 hz3
 go_enter Tryz.func105, Tryz.ntmps105
 go_wp2_with fail
 rw [<- hw_wa, <- hw_wb, <- hw_wc, <- hw_wd]
 (try rw [<- hs_wa])
 (try rw [<- hs_wb])
 (try rw [<- hs_wc])
 (try rw [<- hg_gd])
 (try rw [<- hg_gc])
 (try rw [<- hg_gb])
 (try rw [<- hg_ga])
 clear hw_wa hw_wb hw_wc hw_wd hg_ga hg_gb hg_gc hg_gd hs_wa hs_wb hs_wc hs_wd
 refine (pairMay_any gd t ⟨l0, ps⟩ _ _ HPA.out).mono ?_
 rintro e w1 ⟨rfl, hb⟩
 have HB1 := Lib.hid (bthen HBD.out hb)
 have HKB1 := Lib.hid (keep_at HKB.out hb)
 have HKC1 := Lib.hid (keep_at HKC.out hb)
 clear hb
 cases h0 : pairMay t ⟨l0, ps⟩
 ·have HE := Lib.hid (show pickE t ⟨l0, ps⟩ d = 1100 by unfold pickE; rw [h0]; rfl)
  obtain ⟨wz, hw_wz⟩ : ∃ wz, wz = put2 w1 gc (.int .i64 0) (.slice none 0 0) := ⟨_, rfl⟩
  have hk_wz := put2_at HKC1.out (.int .i64 0) (.slice none 0 0)
  have hg_wz := put2_grown w1 gc (.int .i64 0) (.slice none 0 0)
  rw [<- hw_wz] at hk_wz hg_wz
  unfold put2 at hw_wz
  have o_wz_0 := BlockIs.of HKC1.out 0 _ rfl
  have o_wz_1 := BlockIs.of HKC1.out 1 _ rfl
  have f_wz := thaw HKC1.out
  have e_wz_0 := BlockIs.of hk_wz 0 _ rfl
  have e_wz_1 := BlockIs.of hk_wz 1 _ rfl
  go_wp2_with fail
  rw [<- hw_wz]
  refine bodyPost_ret (v := .tuple #[.agg #[.int .i64 0, .slice none 0 0], .int .i64 1100]) (by simp [results, Tryz.results105, go_sem, e_wz_0, e_wz_1]) rfl ⟨0, none, 0, 0, (by rw [HE.out]), (fun h => absurd (HE.out.symm.trans h) (by decide)), bput HB1.out hg_wz HGS.out.2.1 (Nat.le_refl _)⟩
 ·have HM := Lib.hid h0
  cases h1 : demP d
  ·have HE := Lib.hid (show pickE t ⟨l0, ps⟩ d = 1100 by unfold pickE; rw [h0, h1]; rfl)
   go_wp2_with fail
   refine (demandMay_any _ _).mono ?_
   rintro e w2 ⟨rfl, hw⟩
   subst w2
   rw [show decide (1 <= d /\ d <= 65535) = false from h1]
   obtain ⟨wz, hw_wz⟩ : ∃ wz, wz = put2 w1 gc (.int .i64 0) (.slice none 0 0) := ⟨_, rfl⟩
   have hk_wz := put2_at HKC1.out (.int .i64 0) (.slice none 0 0)
   have hg_wz := put2_grown w1 gc (.int .i64 0) (.slice none 0 0)
   rw [<- hw_wz] at hk_wz hg_wz
   unfold put2 at hw_wz
   have o_wz_0 := BlockIs.of HKC1.out 0 _ rfl
   have o_wz_1 := BlockIs.of HKC1.out 1 _ rfl
   have f_wz := thaw HKC1.out
   have e_wz_0 := BlockIs.of hk_wz 0 _ rfl
   have e_wz_1 := BlockIs.of hk_wz 1 _ rfl
   go_wp2_with fail
   rw [<- hw_wz]
   refine bodyPost_ret (v := .tuple #[.agg #[.int .i64 0, .slice none 0 0], .int .i64 1100]) (by simp [results, Tryz.results105, go_sem, e_wz_0, e_wz_1]) rfl ⟨0, none, 0, 0, (by rw [HE.out]), (fun h => absurd (HE.out.symm.trans h) (by decide)), bput HB1.out hg_wz HGS.out.2.1 (Nat.le_refl _)⟩
  ·have hy1 := BlockIs.of HKB1.out 1 _ rfl
   go_wp2_with fail
   refine (demandMay_any _ _).mono ?_
   rintro e w2 ⟨rfl, hw⟩
   subst w2
   rw [show decide (1 <= d /\ d <= 65535) = true from h1]
   by_cases h4 : ps.length = 4
   ·have HE := Lib.hid (show pickE t ⟨l0, ps⟩ d = 1101 by unfold pickE; rw [h0, h1, if_neg (by simp), if_pos h4])
    have h4' : ((ps.length : Int) == 4) = true := by rw [beq_iff_eq]; omega
    obtain ⟨wz, hw_wz⟩ : ∃ wz, wz = put2 w1 gc (.int .i64 0) (.slice none 0 0) := ⟨_, rfl⟩
    have hk_wz := put2_at HKC1.out (.int .i64 0) (.slice none 0 0)
    have hg_wz := put2_grown w1 gc (.int .i64 0) (.slice none 0 0)
    rw [<- hw_wz] at hk_wz hg_wz
    unfold put2 at hw_wz
    have o_wz_0 := BlockIs.of HKC1.out 0 _ rfl
    have o_wz_1 := BlockIs.of HKC1.out 1 _ rfl
    have f_wz := thaw HKC1.out
    have e_wz_0 := BlockIs.of hk_wz 0 _ rfl
    have e_wz_1 := BlockIs.of hk_wz 1 _ rfl
    go_wp2_with fail
    rw [<- hw_wz]
    refine bodyPost_ret (v := .tuple #[.agg #[.int .i64 0, .slice none 0 0], .int .i64 1101]) (by simp [results, Tryz.results105, go_sem, e_wz_0, e_wz_1]) rfl ⟨0, none, 0, 0, (by rw [HE.out]), (fun h => absurd (HE.out.symm.trans h) (by decide)), bput HB1.out hg_wz HGS.out.2.1 (Nat.le_refl _)⟩
   ·have HE := Lib.hid (show pickE t ⟨l0, ps⟩ d = 0 by unfold pickE; rw [h0, h1, if_neg (by simp), if_neg h4])
    have h4' : ((ps.length : Int) == 4) = false := by rw [beq_eq_false_iff_ne]; omega
    have hps : ps.length <= 4 := (pairMay_task h0).2.2.2.1
    go_wp2_with fail
    refine (cloneInt_any _ ps _ (HV.out.ext (Ext.below HB1.out))).mono ?_
    rintro e w3 ⟨cv, rfl, hrow, hb3⟩
    have HB3 := Lib.hid (bthen HB1.out hb3)
    have HR3 := Lib.hid hrow
    have HK3 := Lib.hid (And.intro (keep_at HKB1.out hb3) (keep_at HKC1.out hb3))
    have hsz3 := hb3.size
    have HLT := Lib.hid (And.intro (lt_of_block HKB1.out) (lt_of_block HKC1.out))
    obtain ⟨ca, cc, rfl⟩ := own_shape hrow
    clear hrow hb3 hy1 h4 h0 h1
    go_wp2_with (at_builtin; refine append_elem rfl (.tmp 31) (.tmp 33) 75 rfl w1.heap.size 3 _ 1 8 Tryz.underlying75 infoInt rfl (by decide) (.slice ca ps.length cc) ps.length _ rfl HR3.out (intCell d) w3.heap.size rfl rfl rfl rfl (by omega) (by omega) hsz3 ?_)
    intro v4 w4 hown hbel hg
    have HB4 := Lib.hid (HB3.out.trans (hbel.mono HB1.out.size))
    have HR4 := Lib.hid (show IntRow w4 w.heap.size v4 (ps ++ [d]) from own_lower (IntRow.snoc rfl hown) HB1.out.size)
    have hkb := (hbel.block gb HLT.out.1).trans HK3.out.1
    have hkc := (hbel.block gc HLT.out.2).trans HK3.out.2
    have hg5 := set_grown w4 gb 1 v4
    have hk5 : (w4.setCell ⟨gb, 1, none⟩ v4).heap[gb]? = some (.cells #[.int .i64 l0, v4] 143 (0, 0)) := by have := blk_set hkb 1 v4; simpa using this
    have hkc5 := set_at (q := gb) (j := 1) v4 hkc (by have := HGS.out; omega)
    obtain ⟨w5, hw5⟩ : ∃ w5, w5 = w4.setCell ⟨gb, 1, none⟩ v4 := ⟨_, rfl⟩
    have o5 := BlockIs.of hkb 1 _ rfl
    have o6 := BlockIs.of hkb 0 _ rfl
    have f5 := thaw hkb 1
    have z0 := BlockIs.of hkc 0 _ rfl
    have z1 := BlockIs.of hkc 1 _ rfl
    have fz := thaw hkc
    have hne : gb ≠ gc := HGS.out.2.2.1
    have hne' : gc ≠ gb := fun h => HGS.out.2.2.1 h.symm
    rw [<- hw5] at hg5 hk5 hkc5
    have e50 := BlockIs.of hk5 0 _ rfl
    have e51 := BlockIs.of hk5 1 _ rfl
    obtain ⟨w6, hw_w6⟩ : ∃ w6, w6 = put2 w5 gc (.int .i64 l0) (v4) := ⟨_, rfl⟩
    have hk_w6 := put2_at hkc5 (.int .i64 l0) (v4)
    have hg_w6 := put2_grown w5 gc (.int .i64 l0) (v4)
    rw [<- hw_w6] at hk_w6 hg_w6
    unfold put2 at hw_w6
    have o_w6_0 := BlockIs.of hkc5 0 _ rfl
    have o_w6_1 := BlockIs.of hkc5 1 _ rfl
    have f_w6 := thaw hkc5
    have e_w6_0 := BlockIs.of hk_w6 0 _ rfl
    have e_w6_1 := BlockIs.of hk_w6 1 _ rfl
    have HK6 := Lib.hid (two_keeps hg5 hg_w6)
    have HR6 := Lib.hid (show IntRow w6 w.heap.size v4 (ps ++ [d]) from Keeps.own HR4.out HK6.out (fun g hg hf => by
     have h1 := (hown.lt g hg).1
     have := HLT.out
     omega))
    have HB6 := Lib.hid (bput (bput HB4.out hg5 HGS.out.1 (Nat.le_refl _)) hg_w6 HGS.out.2.1 (Nat.le_refl _))
    obtain ⟨va, vc, rfl⟩ := own_shape hown
    clear hown hbel hg hkb hkc hg5 hk5 hkc5 hk_w6 hg_w6
    go_wp2_with fail
    rw [<- hw5, <- hw_w6]
    refine bodyPost_ret (v := .tuple #[.agg #[.int .i64 l0, .slice va (ps.length + 1) vc], .int .i64 0]) (by simp [results, Tryz.results105, go_sem, e_w6_0, e_w6_1]) rfl ⟨l0, _, _, _, by rw [HE.out], fun _ => ⟨rfl, HR6.out⟩, HB6.out⟩
set_option maxRecDepth 100000 in
set_option maxHeartbeats 2000000 in
theorem taskLate_any (t : Task) (l0 : Int) (pv : Value) (ps : List Int) (now : Int) (w : World) (hv : IntsV w pv ps) :
  Calls Tryz.prog 106 #[taskV t, .agg #[.int .i64 l0, pv], .int .i64 now] w fun e w' => e = .returned (.bool (lateB t ⟨l0, ps⟩ now)) /\ Below w.heap.size w w' := by
 obtain ⟨a, cap, rfl, -⟩ := id hv
 obtain ⟨wa, ga, hw_wa, hg_ga, hb_wa, hk_ga, hs_wa⟩ := alloc_all w (.cells #[.int .i64 t.kind, .int .i64 t.period, .int .i64 t.deadline, .int .i64 t.clow, .int .i64 t.chigh, .int .i64 t.prio] 51)
 obtain ⟨wb, gb, hw_wb, hg_gb, hb_wb, hk_gb, hs_wb⟩ := alloc_all wa (.cells #[.int .i64 l0, .slice a ps.length cap] 143)
 obtain ⟨wd, gd, hw_wd, hg_gd, hb_wd, hk_gd, hs_wd⟩ := alloc_all wb (.cells #[.int .i64 t.kind, .int .i64 t.period, .int .i64 t.deadline, .int .i64 t.clow, .int .i64 t.chigh, .int .i64 t.prio, .int .i64 l0, .slice a ps.length cap] 243)
 have HBD := Lib.hid (bthen hb_wa (bthen hb_wb hb_wd))
 have HPA := Lib.hid (show PairAt wd gd t ⟨l0, ps⟩ (.slice a ps.length cap) from ⟨hk_gd, hv.ext (Ext.below HBD.out)⟩)
 have HKD := Lib.hid hk_gd
 clear hb_wa hb_wb hb_wd hk_ga hk_gb hk_gd
 clear hv
 go_enter Tryz.func106, Tryz.ntmps106
 go_wp2_with fail
 rw [<- hw_wa, <- hw_wb, <- hw_wd]
 (try rw [<- hs_wa])
 (try rw [<- hs_wb])
 (try rw [<- hg_gd])
 (try rw [<- hg_gb])
 (try rw [<- hg_ga])
 clear hw_wa hw_wb hw_wd hg_ga hg_gb hg_gd hs_wa hs_wb hs_wd
 refine (pairMay_any gd t ⟨l0, ps⟩ _ _ HPA.out).mono ?_
 rintro e w1 ⟨rfl, hb⟩
 have HB1 := Lib.hid (bthen HBD.out hb)
 have hk1 := keep_at HKD.out hb
 have HP1 := Lib.hid (HPA.out.keep hb)
 clear hb
 have y0 := BlockIs.of hk1 0 _ rfl
 have y7 := BlockIs.of hk1 7 _ rfl
 clear hk1
 cases h0 : pairMay t ⟨l0, ps⟩
 ·have HE := Lib.hid (show false = lateB t ⟨l0, ps⟩ now by unfold lateB; rw [h0]; rfl)
  go_wp2_with fail
  go_ret
  exact ⟨ret_bool HE.out, HB1.out⟩
 ·have HM := Lib.hid h0
  cases h1 : clockB now
  ·have HE := Lib.hid (show false = lateB t ⟨l0, ps⟩ now by unfold lateB; rw [h1]; simp)
   go_wp2_with fail
   refine (clock_any _ _).mono ?_
   rintro e w2 ⟨rfl, hw⟩
   subst w2
   rw [show decide (0 <= now /\ now <= 1099511627776) = false from h1]
   go_wp2_with fail
   go_ret
   exact ⟨ret_bool HE.out, HB1.out⟩
  ·have HC := Lib.hid h1
   go_wp2_with fail
   refine (clock_any _ _).mono ?_
   rintro e w2 ⟨rfl, hw⟩
   subst w2
   rw [show decide (0 <= now /\ now <= 1099511627776) = true from h1]
   by_cases h2 : t.kind = 1
   ·have h2' : (t.kind == 1) = true := by simpa using h2
    by_cases h3 : 0 < ps.length
    ·have h3' : (0 : Int) < (ps.length : Int) := by omega
     have HE := Lib.hid (show (!soonB t ⟨l0, ps⟩ now) = lateB t ⟨l0, ps⟩ now by unfold lateB; rw [h0, h1, decide_eq_true h2, decide_eq_true h3]; rfl)
     clear h2
     go_wp2_with fail
     refine (soon_any gd t ⟨l0, ps⟩ _ now _ HP1.out HM.out).mono ?_
     rintro e w3 ⟨rfl, hb⟩
     have HB3 := Lib.hid (bthen HB1.out hb)
     clear hb
     go_wp2_with fail
     go_ret
     exact ⟨ret_bool HE.out, HB3.out⟩
    ·have hz : ps = [] := List.length_eq_zero_iff.1 (by omega)
     subst hz
     have HE := Lib.hid (show false = lateB t ⟨l0, []⟩ now by unfold lateB; simp)
     clear h2 h3
     go_wp2_with fail
     go_ret
     exact ⟨ret_bool HE.out, HB1.out⟩
   ·have h2' : (t.kind == 1) = false := by simpa using h2
    have HE := Lib.hid (show false = lateB t ⟨l0, ps⟩ now by unfold lateB; rw [decide_eq_false h2]; simp)
    clear h2
    go_wp2_with fail
    go_ret
    exact ⟨ret_bool HE.out, HB1.out⟩
set_option maxRecDepth 100000 in
set_option maxHeartbeats 4000000 in
theorem taskRelease_any (t : Task) (l0 : Int) (pv : Value) (ps : List Int) (now : Int) (w : World) (hv : IntsV w pv ps) :
  Calls Tryz.prog 108 #[taskV t, .agg #[.int .i64 l0, pv], .int .i64 now] w fun e w' => ∃ l' a' n' c' dm, e = .returned (.tuple #[.agg #[.int .i64 l', .slice a' n' c'], .int .i64 dm, .bool (relIs t ⟨l0, ps⟩ now)]) /\ (relIs t ⟨l0, ps⟩ now = true -> l' = now /\ dm = relD t ⟨l0, ps⟩ /\ IntRow w' w.heap.size (.slice a' n' c') (ps.drop 1)) /\ Below w.heap.size w w' := by
 obtain ⟨a, cap, rfl, hz1, hz2, hz3, -⟩ := id hv
 have HV := Lib.hid hv
 obtain ⟨wa, ga, hw_wa, hg_ga, hb_wa, hk_ga, hs_wa⟩ := alloc_all w (.cells #[.int .i64 t.kind, .int .i64 t.period, .int .i64 t.deadline, .int .i64 t.clow, .int .i64 t.chigh, .int .i64 t.prio] 51)
 obtain ⟨wb, gb, hw_wb, hg_gb, hb_wb, hk_gb, hs_wb⟩ := alloc_all wa (.cells #[.int .i64 l0, .slice a ps.length cap] 143)
 obtain ⟨wc, gc, hw_wc, hg_gc, hb_wc, hk_gc, hs_wc⟩ := alloc_all wb (.cells #[.int .i64 0, .slice none 0 0] 143)
 obtain ⟨wd, gd, hw_wd, hg_gd, hb_wd, hk_gd, hs_wd⟩ := alloc_all wc (.cells #[.int .i64 t.kind, .int .i64 t.period, .int .i64 t.deadline, .int .i64 t.clow, .int .i64 t.chigh, .int .i64 t.prio, .int .i64 l0, .slice a ps.length cap] 243)
 have HBD := Lib.hid (bthen hb_wa (bthen hb_wb (bthen hb_wc hb_wd)))
 have HPA := Lib.hid (show PairAt wd gd t ⟨l0, ps⟩ (.slice a ps.length cap) from ⟨hk_gd, hv.ext (Ext.below HBD.out)⟩)
 have HKB := Lib.hid (keep_at (keep_at hk_gb hb_wc) hb_wd)
 have HKC := Lib.hid (keep_at hk_gc hb_wd)
 have HKD := Lib.hid hk_gd
 have HGS := Lib.hid (show w.heap.size <= gb /\ w.heap.size <= gc /\ gb ≠ gc /\ gc ≠ gd /\ gb ≠ gd /\ w.heap.size <= gd by omega)
 clear hb_wa hb_wb hb_wc hb_wd hk_ga hk_gb hk_gc hk_gd
 clear hv
 go_enter Tryz.func108, Tryz.ntmps108
 go_wp2_with fail
 rw [<- hw_wa, <- hw_wb, <- hw_wc, <- hw_wd]
 (try rw [<- hs_wa])
 (try rw [<- hs_wb])
 (try rw [<- hs_wc])
 (try rw [<- hg_gd])
 (try rw [<- hg_gc])
 (try rw [<- hg_gb])
 (try rw [<- hg_ga])
 clear hw_wa hw_wb hw_wc hw_wd hg_ga hg_gb hg_gc hg_gd hs_wa hs_wb hs_wc hs_wd
 refine (pairMay_any gd t ⟨l0, ps⟩ _ _ HPA.out).mono ?_
 rintro e w1 ⟨rfl, hb⟩
 have HB1 := Lib.hid (bthen HBD.out hb)
 have HKB1 := Lib.hid (keep_at HKB.out hb)
 have HKC1 := Lib.hid (keep_at HKC.out hb)
 have HP1 := Lib.hid (HPA.out.keep hb)
 clear hb
 cases h0 : pairMay t ⟨l0, ps⟩
 ·have HE := Lib.hid (show relIs t ⟨l0, ps⟩ now = false by unfold relIs; rw [h0]; rfl)
  obtain ⟨wz, hw_wz⟩ : ∃ wz, wz = put2 w1 gc (.int .i64 0) (.slice none 0 0) := ⟨_, rfl⟩
  have hk_wz := put2_at HKC1.out (.int .i64 0) (.slice none 0 0)
  have hg_wz := put2_grown w1 gc (.int .i64 0) (.slice none 0 0)
  rw [<- hw_wz] at hk_wz hg_wz
  unfold put2 at hw_wz
  have o_wz_0 := BlockIs.of HKC1.out 0 _ rfl
  have o_wz_1 := BlockIs.of HKC1.out 1 _ rfl
  have f_wz := thaw HKC1.out
  have e_wz_0 := BlockIs.of hk_wz 0 _ rfl
  have e_wz_1 := BlockIs.of hk_wz 1 _ rfl
  go_wp2_with fail
  rw [<- hw_wz]
  refine bodyPost_ret (v := .tuple #[.agg #[.int .i64 0, .slice none 0 0], .int .i64 0, .bool false]) (by simp [results, Tryz.results108, go_sem, e_wz_0, e_wz_1]) rfl ⟨0, none, 0, 0, 0, (by rw [HE.out]), (fun h => absurd (HE.out.symm.trans h) (by decide)), bput HB1.out hg_wz HGS.out.2.1 (Nat.le_refl _)⟩
 ·have HM := Lib.hid h0
  cases h1 : clockB now
  ·have HE := Lib.hid (show relIs t ⟨l0, ps⟩ now = false by unfold relIs; rw [h1]; simp)
   go_wp2_with fail
   refine (clock_any _ _).mono ?_
   rintro e w2 ⟨rfl, hw⟩
   subst w2
   rw [show decide (0 <= now /\ now <= 1099511627776) = false from h1]
   obtain ⟨wz, hw_wz⟩ : ∃ wz, wz = put2 w1 gc (.int .i64 0) (.slice none 0 0) := ⟨_, rfl⟩
   have hk_wz := put2_at HKC1.out (.int .i64 0) (.slice none 0 0)
   have hg_wz := put2_grown w1 gc (.int .i64 0) (.slice none 0 0)
   rw [<- hw_wz] at hk_wz hg_wz
   unfold put2 at hw_wz
   have o_wz_0 := BlockIs.of HKC1.out 0 _ rfl
   have o_wz_1 := BlockIs.of HKC1.out 1 _ rfl
   have f_wz := thaw HKC1.out
   have e_wz_0 := BlockIs.of hk_wz 0 _ rfl
   have e_wz_1 := BlockIs.of hk_wz 1 _ rfl
   go_wp2_with fail
   rw [<- hw_wz]
   refine bodyPost_ret (v := .tuple #[.agg #[.int .i64 0, .slice none 0 0], .int .i64 0, .bool false]) (by simp [results, Tryz.results108, go_sem, e_wz_0, e_wz_1]) rfl ⟨0, none, 0, 0, 0, (by rw [HE.out]), (fun h => absurd (HE.out.symm.trans h) (by decide)), bput HB1.out hg_wz HGS.out.2.1 (Nat.le_refl _)⟩
  ·have hcl : 0 <= now /\ now <= 1099511627776 := of_decide_eq_true h1
   go_wp2_with fail
   refine (clock_any _ _).mono ?_
   rintro e w2 ⟨rfl, hw⟩
   subst w2
   rw [show decide (0 <= now /\ now <= 1099511627776) = true from h1]
   go_wp2_with fail
   refine (comes_any gd t ⟨l0, ps⟩ _ now _ HP1.out HM.out hcl.1 hcl.2).mono ?_
   rintro e w2 ⟨rfl, hb⟩
   have HB2 := Lib.hid (bthen HB1.out hb)
   have HKB2 := Lib.hid (keep_at HKB1.out hb)
   have HKC2 := Lib.hid (keep_at HKC1.out hb)
   have HKD2 := Lib.hid (HP1.out.keep hb).1
   have HV2 := Lib.hid (HV.out.ext (Ext.below HB2.out))
   clear hb
   cases h2 : comesB t ⟨l0, ps⟩ now
   ·have HE := Lib.hid (show relIs t ⟨l0, ps⟩ now = false by unfold relIs; rw [h2]; simp)
    have hy1 := BlockIs.of HKB2.out 1 _ rfl
    have hps : ps.length <= 4 := (pairMay_task h0).2.2.2.1
    go_wp2_with fail
    refine (cloneInt_any _ ps _ HV2.out).mono ?_
    rintro e w4 ⟨v4, rfl, hrow, hb3⟩
    have HB4 := Lib.hid (bthen HB2.out hb3)
    have hkb := keep_at HKB2.out hb3
    have hkc := keep_at HKC2.out hb3
    obtain ⟨va, vc, rfl⟩ := own_shape hrow
    clear hrow hb3 hy1
    have hg5 := set_grown w4 gb 1 (.slice va ps.length vc)
    have hk5 : (w4.setCell ⟨gb, 1, none⟩ (.slice va ps.length vc)).heap[gb]? = some (.cells #[.int .i64 l0, .slice va ps.length vc] 143 (0, 0)) := by have := blk_set hkb 1 (.slice va ps.length vc); simpa using this
    have hkc5 := set_at (q := gb) (j := 1) (.slice va ps.length vc) hkc (by have := HGS.out; omega)
    obtain ⟨w5, hw5⟩ : ∃ w5, w5 = w4.setCell ⟨gb, 1, none⟩ (.slice va ps.length vc) := ⟨_, rfl⟩
    have o5 := BlockIs.of hkb 1 _ rfl
    have o6 := BlockIs.of hkb 0 _ rfl
    have f5 := thaw hkb 1
    have z0 := BlockIs.of hkc 0 _ rfl
    have z1 := BlockIs.of hkc 1 _ rfl
    have fz := thaw hkc
    have hne : gb ≠ gc := HGS.out.2.2.1
    have hne' : gc ≠ gb := fun h => HGS.out.2.2.1 h.symm
    rw [<- hw5] at hg5 hk5 hkc5
    have e50 := BlockIs.of hk5 0 _ rfl
    have e51 := BlockIs.of hk5 1 _ rfl
    obtain ⟨w6, hw_w6⟩ : ∃ w6, w6 = put2 w5 gc (.int .i64 l0) (.slice va ps.length vc) := ⟨_, rfl⟩
    have hk_w6 := put2_at hkc5 (.int .i64 l0) (.slice va ps.length vc)
    have hg_w6 := put2_grown w5 gc (.int .i64 l0) (.slice va ps.length vc)
    rw [<- hw_w6] at hk_w6 hg_w6
    unfold put2 at hw_w6
    have o_w6_0 := BlockIs.of hkc5 0 _ rfl
    have o_w6_1 := BlockIs.of hkc5 1 _ rfl
    have f_w6 := thaw hkc5
    have e_w6_0 := BlockIs.of hk_w6 0 _ rfl
    have e_w6_1 := BlockIs.of hk_w6 1 _ rfl
    have HK6 := Lib.hid (two_keeps hg5 hg_w6)
    have HB6 := Lib.hid (bput (bput HB4.out hg5 HGS.out.1 (Nat.le_refl _)) hg_w6 HGS.out.2.1 (Nat.le_refl _))
    clear hkb hkc hg5 hk5 hkc5 hk_w6 hg_w6
    go_wp2_with fail
    rw [<- hw5, <- hw_w6]
    refine bodyPost_ret (v := .tuple #[.agg #[.int .i64 l0, .slice va ps.length vc], .int .i64 0, .bool false]) (by simp [results, Tryz.results108, go_sem, e_w6_0, e_w6_1]) rfl ⟨l0, _, _, _, 0, by rw [HE.out], fun h => absurd (HE.out.symm.trans h) (by decide), HB6.out⟩
   ·have HE := Lib.hid (show relIs t ⟨l0, ps⟩ now = true by unfold relIs; rw [h0, h1, h2]; rfl)
    have hps : ps.length <= 4 := (pairMay_task h0).2.2.2.1
    have yd3 := BlockIs.of HKD2.out 3 _ rfl
    have yd7 := BlockIs.of HKD2.out 7 _ rfl
    have hkb := HKB2.out
    have hkc := HKC2.out
    rcases ps with _ | ⟨d, r⟩
    ·have HRD := Lib.hid (show relD t ⟨l0, []⟩ = t.clow from rfl)
     have HB4 := HB2
     obtain ⟨w4, hw4⟩ : ∃ w4, w4 = w2 := ⟨_, rfl⟩
     rw [<- hw4] at hkb hkc HB4 yd3 yd7 |-
     clear hw4
     obtain ⟨w5, hw5⟩ : ∃ w5, w5 = (w4.setCell ⟨gb, 1, none⟩ (.slice none 0 0)).setCell ⟨gb, 0, none⟩ (.int .i64 now) := ⟨_, rfl⟩
     have hg5 : w4.grownBy w5 (some gb) := by rw [hw5]; exact grown_trans (set_grown _ _ _ _) (set_grown _ _ _ _)
     have hk5 : w5.heap[gb]? = some (.cells #[.int .i64 now, .slice none 0 0] 143 (0, 0)) := by rw [hw5]; have := blk_set (blk_set hkb 1 (.slice none 0 0)) 0 (.int .i64 now); simpa using this
     have hkc5 : w5.heap[gc]? = some (.cells #[.int .i64 0, .slice none 0 0] 143 (0, 0)) := by rw [hw5]; exact set_at (q := gb) (j := 0) (.int .i64 now) (set_at (q := gb) (j := 1) (.slice none 0 0) hkc (by have := HGS.out; omega)) (by have := HGS.out; omega)
     have o5 := BlockIs.of hkb 1 _ rfl
     have o6 := BlockIs.of hkb 0 _ rfl
     have f5 := thaw hkb
     have z0 := BlockIs.of hkc 0 _ rfl
     have z1 := BlockIs.of hkc 1 _ rfl
     have fz := thaw hkc
     have hne : gb ≠ gc := HGS.out.2.2.1
     have hne' : gc ≠ gb := fun h => HGS.out.2.2.1 h.symm
     have e50 := BlockIs.of hk5 0 _ rfl
     have e51 := BlockIs.of hk5 1 _ rfl
     obtain ⟨w6, hw_w6⟩ : ∃ w6, w6 = put2 w5 gc (.int .i64 now) (.slice none 0 0) := ⟨_, rfl⟩
     have hk_w6 := put2_at hkc5 (.int .i64 now) (.slice none 0 0)
     have hg_w6 := put2_grown w5 gc (.int .i64 now) (.slice none 0 0)
     rw [<- hw_w6] at hk_w6 hg_w6
     unfold put2 at hw_w6
     have o_w6_0 := BlockIs.of hkc5 0 _ rfl
     have o_w6_1 := BlockIs.of hkc5 1 _ rfl
     have f_w6 := thaw hkc5
     have e_w6_0 := BlockIs.of hk_w6 0 _ rfl
     have e_w6_1 := BlockIs.of hk_w6 1 _ rfl
     have HK6 := Lib.hid (two_keeps hg5 hg_w6)
     have HB6 := Lib.hid (bput (bput HB4.out hg5 HGS.out.1 (Nat.le_refl _)) hg_w6 HGS.out.2.1 (Nat.le_refl _))
     clear hkb hkc hg5 hk5 hkc5 hk_w6 hg_w6
     go_wp2_with fail
     rw [<- hw5, <- hw_w6]
     refine bodyPost_ret (v := .tuple #[.agg #[.int .i64 now, .slice none 0 0], .int .i64 t.clow, .bool true]) (by simp [results, Tryz.results108, go_sem, e_w6_0, e_w6_1]) rfl ⟨now, _, _, _, t.clow, by rw [HE.out], fun _ => ⟨rfl, HRD.out.symm, World.ownsRow_nil _ _ _ _⟩, HB6.out⟩
    ·have HRD := Lib.hid (show relD t ⟨l0, d :: r⟩ = d from rfl)
     obtain ⟨b, off, c', e, y⟩ := HV2.out.get (k := 0) (by simp)
     injection e with e _ e3
     subst e
     subst e3
     unfold IntAt at y
     simp only [Nat.add_zero, List.getElem_cons_zero] at y
     have hb1 := BlockIs.of HKB2.out 1 _ rfl
     have d1 : (0 : Int) < (r.length : Int) + 1 := by omega
     have d2 : (0 : Int) <= (r.length : Int) := by omega
     have hcap : r.length + 1 <= cap := by simpa using hz2
     simp only [List.length_cons] at yd7 hb1 hps hkb hkc |-
     by_cases hc1 : cap = 1
     ·have hr : r = [] := List.length_eq_zero_iff.1 (by omega)
      subst hr
      go_wp2_with fail
      refine (cloneInt_any _ [] _ (IntsV.nil _ _ _ (by omega))).mono ?_
      rintro e w4 ⟨v4, rfl, hrow, hb3⟩
      have HB4 := Lib.hid (bthen HB2.out hb3)
      have hkb := keep_at HKB2.out hb3
      have hkc := keep_at HKC2.out hb3
      have HR4 := Lib.hid hrow
      have HLT := Lib.hid (And.intro (lt_of_block HKB2.out) (lt_of_block HKC2.out))
      obtain ⟨va, vc, rfl⟩ := own_shape hrow
      clear hrow hb3 yd3 yd7 hb1
      obtain ⟨w5, hw5⟩ : ∃ w5, w5 = (w4.setCell ⟨gb, 1, none⟩ (.slice va 0 vc)).setCell ⟨gb, 0, none⟩ (.int .i64 now) := ⟨_, rfl⟩
      have hg5 : w4.grownBy w5 (some gb) := by rw [hw5]; exact grown_trans (set_grown _ _ _ _) (set_grown _ _ _ _)
      have hk5 : w5.heap[gb]? = some (.cells #[.int .i64 now, .slice va 0 vc] 143 (0, 0)) := by rw [hw5]; have := blk_set (blk_set hkb 1 (.slice va 0 vc)) 0 (.int .i64 now); simpa using this
      have hkc5 : w5.heap[gc]? = some (.cells #[.int .i64 0, .slice none 0 0] 143 (0, 0)) := by rw [hw5]; exact set_at (q := gb) (j := 0) (.int .i64 now) (set_at (q := gb) (j := 1) (.slice va 0 vc) hkc (by have := HGS.out; omega)) (by have := HGS.out; omega)
      have o5 := BlockIs.of hkb 1 _ rfl
      have o6 := BlockIs.of hkb 0 _ rfl
      have f5 := thaw hkb
      have z0 := BlockIs.of hkc 0 _ rfl
      have z1 := BlockIs.of hkc 1 _ rfl
      have fz := thaw hkc
      have hne : gb ≠ gc := HGS.out.2.2.1
      have hne' : gc ≠ gb := fun h => HGS.out.2.2.1 h.symm
      have e50 := BlockIs.of hk5 0 _ rfl
      have e51 := BlockIs.of hk5 1 _ rfl
      obtain ⟨w6, hw_w6⟩ : ∃ w6, w6 = put2 w5 gc (.int .i64 now) (.slice va 0 vc) := ⟨_, rfl⟩
      have hk_w6 := put2_at hkc5 (.int .i64 now) (.slice va 0 vc)
      have hg_w6 := put2_grown w5 gc (.int .i64 now) (.slice va 0 vc)
      rw [<- hw_w6] at hk_w6 hg_w6
      unfold put2 at hw_w6
      have o_w6_0 := BlockIs.of hkc5 0 _ rfl
      have o_w6_1 := BlockIs.of hkc5 1 _ rfl
      have f_w6 := thaw hkc5
      have e_w6_0 := BlockIs.of hk_w6 0 _ rfl
      have e_w6_1 := BlockIs.of hk_w6 1 _ rfl
      have HK6 := Lib.hid (two_keeps hg5 hg_w6)
      have HB6 := Lib.hid (bput (bput HB4.out hg5 HGS.out.1 (Nat.le_refl _)) hg_w6 HGS.out.2.1 (Nat.le_refl _))
      clear hkb hkc hg5 hk5 hkc5 hk_w6 hg_w6
      go_wp2_with fail
      rw [<- hw5, <- hw_w6]
      refine bodyPost_ret (v := .tuple #[.agg #[.int .i64 now, .slice va 0 vc], .int .i64 d, .bool true]) (by simp [results, Tryz.results108, go_sem, e_w6_0, e_w6_1]) rfl ⟨now, _, _, _, d, (by first | (rw [HE.out]; done) | (rw [HE.out]; rfl)), fun _ => ⟨rfl, HRD.out.symm, own_lower (Keeps.own HR4.out HK6.out (fun g hg hf => by
       have h1 := (HR4.out.lt g hg).1
       have := HLT.out
       omega)) HB2.out.size⟩, HB6.out⟩
     ·by_cases hrn : r = []
      ·subst hrn
       go_wp2_with fail
       refine (cloneInt_any _ [] _ (IntsV.nil _ _ _ (by omega))).mono ?_
       rintro e w4 ⟨v4, rfl, hrow, hb3⟩
       have HB4 := Lib.hid (bthen HB2.out hb3)
       have hkb := keep_at HKB2.out hb3
       have hkc := keep_at HKC2.out hb3
       have HR4 := Lib.hid hrow
       have HLT := Lib.hid (And.intro (lt_of_block HKB2.out) (lt_of_block HKC2.out))
       obtain ⟨va, vc, rfl⟩ := own_shape hrow
       clear hrow hb3 yd3 yd7 hb1
       obtain ⟨w5, hw5⟩ : ∃ w5, w5 = (w4.setCell ⟨gb, 1, none⟩ (.slice va 0 vc)).setCell ⟨gb, 0, none⟩ (.int .i64 now) := ⟨_, rfl⟩
       have hg5 : w4.grownBy w5 (some gb) := by rw [hw5]; exact grown_trans (set_grown _ _ _ _) (set_grown _ _ _ _)
       have hk5 : w5.heap[gb]? = some (.cells #[.int .i64 now, .slice va 0 vc] 143 (0, 0)) := by rw [hw5]; have := blk_set (blk_set hkb 1 (.slice va 0 vc)) 0 (.int .i64 now); simpa using this
       have hkc5 : w5.heap[gc]? = some (.cells #[.int .i64 0, .slice none 0 0] 143 (0, 0)) := by rw [hw5]; exact set_at (q := gb) (j := 0) (.int .i64 now) (set_at (q := gb) (j := 1) (.slice va 0 vc) hkc (by have := HGS.out; omega)) (by have := HGS.out; omega)
       have o5 := BlockIs.of hkb 1 _ rfl
       have o6 := BlockIs.of hkb 0 _ rfl
       have f5 := thaw hkb
       have z0 := BlockIs.of hkc 0 _ rfl
       have z1 := BlockIs.of hkc 1 _ rfl
       have fz := thaw hkc
       have hne : gb ≠ gc := HGS.out.2.2.1
       have hne' : gc ≠ gb := fun h => HGS.out.2.2.1 h.symm
       have e50 := BlockIs.of hk5 0 _ rfl
       have e51 := BlockIs.of hk5 1 _ rfl
       obtain ⟨w6, hw_w6⟩ : ∃ w6, w6 = put2 w5 gc (.int .i64 now) (.slice va 0 vc) := ⟨_, rfl⟩
       have hk_w6 := put2_at hkc5 (.int .i64 now) (.slice va 0 vc)
       have hg_w6 := put2_grown w5 gc (.int .i64 now) (.slice va 0 vc)
       rw [<- hw_w6] at hk_w6 hg_w6
       unfold put2 at hw_w6
       have o_w6_0 := BlockIs.of hkc5 0 _ rfl
       have o_w6_1 := BlockIs.of hkc5 1 _ rfl
       have f_w6 := thaw hkc5
       have e_w6_0 := BlockIs.of hk_w6 0 _ rfl
       have e_w6_1 := BlockIs.of hk_w6 1 _ rfl
       have HK6 := Lib.hid (two_keeps hg5 hg_w6)
       have HB6 := Lib.hid (bput (bput HB4.out hg5 HGS.out.1 (Nat.le_refl _)) hg_w6 HGS.out.2.1 (Nat.le_refl _))
       clear hkb hkc hg5 hk5 hkc5 hk_w6 hg_w6
       go_wp2_with fail
       rw [<- hw5, <- hw_w6]
       refine bodyPost_ret (v := .tuple #[.agg #[.int .i64 now, .slice va 0 vc], .int .i64 d, .bool true]) (by simp [results, Tryz.results108, go_sem, e_w6_0, e_w6_1]) rfl ⟨now, _, _, _, d, (by first | (rw [HE.out]; done) | (rw [HE.out]; rfl)), fun _ => ⟨rfl, HRD.out.symm, own_lower (Keeps.own HR4.out HK6.out (fun g hg hf => by
        have h1 := (HR4.out.lt g hg).1
        have := HLT.out
        omega)) HB2.out.size⟩, HB6.out⟩
      ·have HRN := Lib.hid hrn
       clear hrn
       have HSL := Lib.hid (IntsV.one_more HV2.out HRN.out)
       go_wp2_with fail
       refine (cloneInt_any _ r _ HSL.out).mono ?_
       rintro e w4 ⟨v4, rfl, hrow, hb3⟩
       have HB4 := Lib.hid (bthen HB2.out hb3)
       have hkb := keep_at HKB2.out hb3
       have hkc := keep_at HKC2.out hb3
       have HR4 := Lib.hid hrow
       have HLT := Lib.hid (And.intro (lt_of_block HKB2.out) (lt_of_block HKC2.out))
       obtain ⟨va, vc, rfl⟩ := own_shape hrow
       clear hrow hb3 yd3 yd7 hb1
       obtain ⟨w5, hw5⟩ : ∃ w5, w5 = (w4.setCell ⟨gb, 1, none⟩ (.slice va r.length vc)).setCell ⟨gb, 0, none⟩ (.int .i64 now) := ⟨_, rfl⟩
       have hg5 : w4.grownBy w5 (some gb) := by rw [hw5]; exact grown_trans (set_grown _ _ _ _) (set_grown _ _ _ _)
       have hk5 : w5.heap[gb]? = some (.cells #[.int .i64 now, .slice va r.length vc] 143 (0, 0)) := by rw [hw5]; have := blk_set (blk_set hkb 1 (.slice va r.length vc)) 0 (.int .i64 now); simpa using this
       have hkc5 : w5.heap[gc]? = some (.cells #[.int .i64 0, .slice none 0 0] 143 (0, 0)) := by rw [hw5]; exact set_at (q := gb) (j := 0) (.int .i64 now) (set_at (q := gb) (j := 1) (.slice va r.length vc) hkc (by have := HGS.out; omega)) (by have := HGS.out; omega)
       have o5 := BlockIs.of hkb 1 _ rfl
       have o6 := BlockIs.of hkb 0 _ rfl
       have f5 := thaw hkb
       have z0 := BlockIs.of hkc 0 _ rfl
       have z1 := BlockIs.of hkc 1 _ rfl
       have fz := thaw hkc
       have hne : gb ≠ gc := HGS.out.2.2.1
       have hne' : gc ≠ gb := fun h => HGS.out.2.2.1 h.symm
       have e50 := BlockIs.of hk5 0 _ rfl
       have e51 := BlockIs.of hk5 1 _ rfl
       obtain ⟨w6, hw_w6⟩ : ∃ w6, w6 = put2 w5 gc (.int .i64 now) (.slice va r.length vc) := ⟨_, rfl⟩
       have hk_w6 := put2_at hkc5 (.int .i64 now) (.slice va r.length vc)
       have hg_w6 := put2_grown w5 gc (.int .i64 now) (.slice va r.length vc)
       rw [<- hw_w6] at hk_w6 hg_w6
       unfold put2 at hw_w6
       have o_w6_0 := BlockIs.of hkc5 0 _ rfl
       have o_w6_1 := BlockIs.of hkc5 1 _ rfl
       have f_w6 := thaw hkc5
       have e_w6_0 := BlockIs.of hk_w6 0 _ rfl
       have e_w6_1 := BlockIs.of hk_w6 1 _ rfl
       have HK6 := Lib.hid (two_keeps hg5 hg_w6)
       have HB6 := Lib.hid (bput (bput HB4.out hg5 HGS.out.1 (Nat.le_refl _)) hg_w6 HGS.out.2.1 (Nat.le_refl _))
       clear hkb hkc hg5 hk5 hkc5 hk_w6 hg_w6
       go_wp2_with fail
       rw [<- hw5, <- hw_w6]
       refine bodyPost_ret (v := .tuple #[.agg #[.int .i64 now, .slice va r.length vc], .int .i64 d, .bool true]) (by simp [results, Tryz.results108, go_sem, e_w6_0, e_w6_1]) rfl ⟨now, _, _, _, d, (by first | (rw [HE.out]; done) | (rw [HE.out]; rfl)), fun _ => ⟨rfl, HRD.out.symm, own_lower (Keeps.own HR4.out HK6.out (fun g hg hf => by
        have h1 := (HR4.out.lt g hg).1
        have := HLT.out
        omega)) HB2.out.size⟩, HB6.out⟩
end Go.Proofs.YtooeeiiiflfckaaGreat
