/- JobMissed, JobDemands: the plain laws. -/
import Derived.Test.YtbkhnlacabaagaaLoneP
set_option linter.unusedVariables false
set_option linter.unusedSimpArgs false
namespace Go.Proofs.Ytbkhnlacabaagaa
open Go.RowKit

theorem left_one {j : Job} {now : Int} (h : jobMay j = true) : leftJ [j] now = (if j.deadline ≤ now then [] else [j]) ∧ lateJ [j] now = (if j.deadline ≤ now then [j] else []) := by
  have hm := jobsMay_one h
  unfold leftJ lateJ leftP lateP
  rw [if_pos hm, if_pos hm]
  by_cases hd : j.deadline ≤ now
  · simp [hd]
  · simp [hd]
def miT (p d : Int) : Task := ⟨0, p, d, d, d, 0⟩
def miJ (d u : Int) : Job := ⟨0, 0, 0, 0, d, d, u⟩
def miS (l p d u : Int) : LSt := loneS 1 l (miT p d) ⟨0, []⟩ 1 [miJ d u]
def miE (l p d : Int) : LSt := if d = p then loneS 1 l (miT p d) ⟨d, []⟩ 2 [⟨0, 1, 0, d, d + d, d, 0⟩] else loneS 1 l (miT p d) ⟨0, []⟩ 1 []
theorem miT_may {p d : Int} (h1 : 1 ≤ d) (h2 : d ≤ p) (h3 : p ≤ 1024) : taskMay (miT p d) = true := by
  unfold taskMay miT
  refine decide_eq_true ?_
  dsimp only
  omega
theorem miJ_may {d u : Int} (h1 : 1 ≤ d) (h3 : d ≤ 1024) (h4 : 0 ≤ u) (h5 : u < d) : jobMay (miJ d u) = true := by
  unfold jobMay miJ
  refine decide_eq_true ?_
  dsimp only
  omega
theorem pair_nil {t : Task} {l : Int} (h : taskMay t = true) (h1 : -1 ≤ l) (h2 : l ≤ 1099511627776) : pairMay t ⟨l, []⟩ = true := by
  unfold pairMay
  simp [h, h1, h2]
theorem clockYes {x : Int} (h1 : 0 ≤ x) (h2 : x ≤ 1099511627776) : clockB x = true := by
  unfold clockB
  simp only [decide_eq_true_eq]
  omega
theorem mi_begin0 (l : Int) {p d : Int} (h1 : 1 ≤ d) (h2 : d ≤ p) (h3 : p ≤ 1024) :
    begS (loneS 1 l (miT p d) ⟨-1, []⟩ 0 []) 0 = miS l p d 0 ∧ begE (loneS 1 l (miT p d) ⟨-1, []⟩ 0 []) 0 = [⟨1, 1, 0, d⟩] := by
  have ht := miT_may h1 h2 h3
  have hr : relIs (miT p d) ⟨-1, []⟩ 0 = true := by
    unfold relIs
    rw [pair_nil ht (by decide) (by decide), clockYes (by decide) (by decide)]
    simp [comesB, miT]
  have hj : jobMay (loneJ (miT p d) ⟨-1, []⟩ 0 0) = true := by
    unfold jobMay loneJ miT relD
    refine decide_eq_true ?_
    dsimp only [List.headD_nil]
    omega
  obtain ⟨p1, p2⟩ := putE_nil hj
  obtain ⟨r1, r2⟩ := lone_begin (i := 1) (l := l) (t := miT p d) (s := ⟨-1, []⟩) (q := 0) (now := 0) (js := []) hr (by exact p1)
  refine ⟨?_, ?_⟩
  · rw [r1]
    show loneS 1 l (miT p d) _ _ (putL [] _) = _
    rw [p2]
    unfold miS loneJ miJ miT relD
    simp
  · rw [r2]
    rfl
theorem mi_beginM (l : Int) {p d u now : Int} (h1 : 1 ≤ d) (h2 : d ≤ p) (h3 : p ≤ 1024) (h4 : 0 ≤ u) (h5 : u < d) (hn : 0 < now) (hn2 : now < d) :
    begS (miS l p d u) now = miS l p d u ∧ begE (miS l p d u) now = [] := by
  have hr : relIs (miT p d) ⟨0, []⟩ now = false := by
    unfold relIs
    rw [show comesB (miT p d) ⟨0, []⟩ now = false by
      unfold comesB miT
      simp only [if_true, decide_eq_false_iff_not]
      rw [Int.emod_eq_of_lt (by omega) (by omega)]
      omega]
    simp
  obtain ⟨r1, r2⟩ := lone_beginNo (i := 1) (l := l) (t := miT p d) (s := ⟨0, []⟩) (q := 1) (now := now) (js := [miJ d u]) hr
  obtain ⟨q1, q2⟩ := left_one (now := now) (miJ_may h1 (by omega) h4 h5)
  rw [if_neg (by show ¬ d ≤ now; omega)] at q1 q2
  rw [q1] at r1
  rw [q2] at r2
  exact ⟨r1, r2⟩
theorem mi_beginE (l : Int) {p d u : Int} (h1 : 1 ≤ d) (h2 : d ≤ p) (h3 : p ≤ 1024) (h4 : 0 ≤ u) (h5 : u < d) :
    begS (miS l p d u) d = miE l p d ∧ begE (miS l p d u) d = ⟨3, 1, 0, u⟩ :: (if d = p then [⟨1, 1, 0, d⟩] else []) := by
  obtain ⟨q1, q2⟩ := left_one (now := d) (miJ_may h1 (by omega) h4 h5)
  rw [if_pos (by show d ≤ d; omega)] at q1 q2
  by_cases hdp : d = p
  · have hr : relIs (miT p d) ⟨0, []⟩ d = true := by
      unfold relIs
      rw [pair_nil (miT_may h1 h2 h3) (by decide) (by decide), clockYes (by omega) (by omega)]
      subst hdp
      simp [comesB, miT]
    have hj : jobMay (loneJ (miT p d) ⟨0, []⟩ 1 d) = true := by
      unfold jobMay loneJ miT relD
      refine decide_eq_true ?_
      dsimp only [List.headD_nil]
      omega
    obtain ⟨p1, p2⟩ := putE_nil hj
    obtain ⟨r1, r2⟩ := lone_begin (i := 1) (l := l) (t := miT p d) (s := ⟨0, []⟩) (q := 1) (now := d) (js := [miJ d u]) hr (by rw [q1]; exact p1)
    rw [q1, p2] at r1
    rw [q2] at r2
    refine ⟨?_, ?_⟩
    · show begS (loneS 1 l (miT p d) ⟨0, []⟩ 1 [miJ d u]) d = _
      rw [r1]
      unfold miE
      rw [if_pos hdp]
      rfl
    · show begE (loneS 1 l (miT p d) ⟨0, []⟩ 1 [miJ d u]) d = _
      rw [r2, if_pos hdp]
      rfl
  · have hr : relIs (miT p d) ⟨0, []⟩ d = false := by
      unfold relIs
      rw [show comesB (miT p d) ⟨0, []⟩ d = false by
        unfold comesB miT
        simp only [if_true, decide_eq_false_iff_not]
        rw [Int.emod_eq_of_lt (by omega) (by omega)]
        omega]
      simp
    obtain ⟨r1, r2⟩ := lone_beginNo (i := 1) (l := l) (t := miT p d) (s := ⟨0, []⟩) (q := 1) (now := d) (js := [miJ d u]) hr
    rw [q1] at r1
    rw [q2] at r2
    refine ⟨?_, ?_⟩
    · show begS (loneS 1 l (miT p d) ⟨0, []⟩ 1 [miJ d u]) d = _
      rw [r1]
      unfold miE
      rw [if_neg hdp]
    · show begE (loneS 1 l (miT p d) ⟨0, []⟩ 1 [miJ d u]) d = _
      rw [r2, if_neg hdp]
      rfl
theorem mi_run {l p d u : Int} (h4 : 0 ≤ u) (h5 : u + 1 < d) :
    runV (miS l p d u) = ⟨false, false, false⟩ ∧ runS (miS l p d u) = miS l p d (u + 1) ∧ runE (miS l p d u) = 0 ∧ runEv (miS l p d u) = [] := by
  obtain ⟨r1, r2, r3, r4⟩ := lone_run (i := 1) (l := l) (t := miT p d) (s := ⟨0, []⟩) (q := 1) (j := miJ d u) (r := []) rfl
  have hv : chV (miJ d u) (miT p d) l = ⟨false, false, false⟩ := by
    unfold chV miJ miT limI
    have e : (u + 1 == d) = false := by simp; omega
    simp only [e, ite_self]
    simp
  rw [hv] at r1 r2 r4
  exact ⟨r1, r2, r3, r4⟩
theorem miE_len (l p d : Int) : decide (0 < (miE l p d).js.length) = decide (d = p) := by
  unfold miE
  split <;> simp_all [loneS]
def deT (p : Int) : Task := ⟨0, p, 5, 2, 5, 0⟩
/-- After k picks; after the begin of period k. -/
def deS (p : Int) (row : List Int) : LSt := loneS 0 1 (deT p) ⟨-1, row⟩ 0 []
def deB (p : Int) (row : List Int) (k : Nat) : LSt := if k = 0 then deS p row else loneS 0 1 (deT p) ⟨(k : Int) * p, row.drop k⟩ k [⟨0, (k : Int) - 1, 0, (k : Int) * p, (k : Int) * p + 5, (row.drop (k - 1)).headD 2, 0⟩]
theorem de_pick {p d : Int} {row : List Int} (hp : 5 ≤ p) (hp2 : p ≤ 12) (hr : ∀ x ∈ row, demP x = true) (hd : demP d = true) (hl : row.length ≤ 4) :
    pickErr (deS p row) 0 d 1 = (if row.length = 4 then 1101 else 0) ∧ pickSt (deS p row) 0 d 1 = deS p (if row.length = 4 then row else row ++ [d]) ∧ pickEv (deS p row) 0 d 1 = [] := by
  have ht : taskMay (deT p) = true := by unfold taskMay deT; refine decide_eq_true ?_; dsimp only; omega
  have hm : pairMay (deT p) ⟨-1, row⟩ = true := by
    unfold pairMay
    simp only [ht, Bool.true_and, Bool.and_eq_true, decide_eq_true_eq, Bool.not_eq_true', List.any_eq_false]
    exact ⟨⟨⟨by decide, by decide⟩, hl⟩, fun x hx => by rw [hr x hx]; simp⟩
  have hpe : pickE (deT p) ⟨-1, row⟩ d = if row.length = 4 then 1101 else 0 := by unfold pickE; rw [hm, hd]; rfl
  by_cases h4 : row.length = 4
  · rw [if_pos h4] at hpe
    obtain ⟨r1, r2, r3⟩ := lone_pickNo (i := 0) (l := 1) (t := deT p) (s := ⟨-1, row⟩) (q := 0) (js := []) (d := d) (now := 1) (by decide) (by rw [hpe]; decide)
    rw [if_pos h4, if_pos h4]
    exact ⟨r1.trans hpe, r2, r3⟩
  · rw [if_neg h4] at hpe
    obtain ⟨r1, r2, r3⟩ := lone_pick (i := 0) (l := 1) (t := deT p) (s := ⟨-1, row⟩) (q := 0) (js := []) (d := d) (now := 1) (by decide) hpe
    rw [if_neg h4, if_neg h4]
    refine ⟨r1, r2, ?_⟩
    rw [show pickEv (deS p row) 0 d 1 = _ from r3]
    rw [if_neg]
    unfold lateB deT
    simp
theorem drop_head (row : List Int) (k : Nat) (h : ∀ x ∈ row, demP x = true) : 1 ≤ (row.drop k).headD 2 ∧ (row.drop k).headD 2 ≤ 65535 := by
  cases hr : row.drop k with
  | nil => simp
  | cons x r =>
    have hx : x ∈ row := List.mem_of_mem_drop (by rw [hr]; simp)
    have := h x hx
    unfold demP at this
    simp only [decide_eq_true_eq] at this
    simpa using this
theorem de_pair {p : Int} {row : List Int} (hp : 5 ≤ p) (hp2 : p ≤ 12) (hr : ∀ x ∈ row, demP x = true) (hl : row.length ≤ 4) (k : Nat) {l : Int} (h1 : -1 ≤ l) (h2 : l ≤ 1099511627776) : pairMay (deT p) ⟨l, row.drop k⟩ = true := by
  have ht : taskMay (deT p) = true := by unfold taskMay deT; refine decide_eq_true ?_; dsimp only; omega
  unfold pairMay
  simp only [ht, Bool.true_and, Bool.and_eq_true, decide_eq_true_eq, Bool.not_eq_true', List.any_eq_false, List.length_drop]
  exact ⟨⟨⟨h1, h2⟩, by omega⟩, fun x hx => by rw [hr x (List.mem_of_mem_drop hx)]; simp⟩
theorem de_comes {p : Int} (hp : 5 ≤ p) (s : Turns) (k : Nat) : comesB (deT p) s ((k + 1 : Nat) * p) = true := by
  unfold comesB deT
  simp
theorem de_prod {p : Int} (hp : 5 ≤ p) (hp2 : p ≤ 12) (k : Nat) (hk : k < 7) : 0 ≤ (k : Int) * p ∧ (k : Int) * p ≤ 100 ∧ ((k + 1 : Nat) : Int) * p = (k : Int) * p + p := by
  have h1 : ((k + 1 : Nat) : Int) * p = (k : Int) * p + p := by rw [Int.natCast_add, Int.add_mul]; simp
  have h2 : (k : Int) * p ≤ 6 * 12 := Int.mul_le_mul (by omega) hp2 (by omega) (by omega)
  have h3 : 0 ≤ (k : Int) * p := Int.mul_nonneg (by omega) (by omega)
  exact ⟨h3, by omega, h1⟩
theorem de_begin {p : Int} {row : List Int} (hp : 5 ≤ p) (hp2 : p ≤ 12) (hr : ∀ x ∈ row, demP x = true) (hl : row.length ≤ 4) (k : Nat) (hk : k < 6) :
    begS (deB p row k) ((k + 1 : Nat) * p) = deB p row (k + 1) ∧ begE (deB p row k) ((k + 1 : Nat) * p) = (if k = 0 then [] else [⟨3, 0, 0, 0⟩]) ++ [⟨1, 0, 0, (row.drop k).headD 2⟩] := by
  obtain ⟨m1, m2, m3⟩ := de_prod hp hp2 k (by omega)
  obtain ⟨d1, d2⟩ := drop_head row k hr
  have hc : clockB ((k + 1 : Nat) * p) = true := clockYes (by omega) (by omega)
  by_cases h0 : k = 0
  · subst h0
    have hrel : relIs (deT p) ⟨-1, row⟩ ((0 + 1 : Nat) * p) = true := by
      unfold relIs
      rw [de_comes hp, hc, show pairMay (deT p) ⟨-1, row⟩ = true from de_pair hp hp2 hr hl 0 (by decide) (by decide)]
      rfl
    have hj : jobMay (loneJ (deT p) ⟨-1, row⟩ 0 ((0 + 1 : Nat) * p)) = true := by
      unfold jobMay loneJ deT relD
      refine decide_eq_true ?_
      simp only [List.drop_zero] at d1 d2
      dsimp only
      omega
    obtain ⟨p1, p2⟩ := putE_nil hj
    obtain ⟨r1, r2⟩ := lone_begin (i := 0) (l := 1) (t := deT p) (s := ⟨-1, row⟩) (q := 0) (now := (0 + 1 : Nat) * p) (js := []) hrel p1
    refine ⟨?_, ?_⟩
    · show begS (loneS 0 1 (deT p) ⟨-1, row⟩ 0 []) _ = _
      rw [r1]
      show loneS 0 1 (deT p) _ _ (putL [] _) = _
      rw [p2]
      unfold deB loneJ deT relD
      simp
    · show begE (loneS 0 1 (deT p) ⟨-1, row⟩ 0 []) _ = _
      rw [r2]
      rfl
  · have hB : deB p row k = loneS 0 1 (deT p) ⟨(k : Int) * p, row.drop k⟩ k [⟨0, (k : Int) - 1, 0, (k : Int) * p, (k : Int) * p + 5, (row.drop (k - 1)).headD 2, 0⟩] := by
      unfold deB
      rw [if_neg h0]
    have hrel : relIs (deT p) ⟨(k : Int) * p, row.drop k⟩ ((k + 1 : Nat) * p) = true := by
      unfold relIs
      rw [de_comes hp, hc, de_pair hp hp2 hr hl k (by omega) (by omega)]
      rfl
    obtain ⟨e1, e2⟩ := drop_head row (k - 1) hr
    have hj0 : jobMay ⟨0, (k : Int) - 1, 0, (k : Int) * p, (k : Int) * p + 5, (row.drop (k - 1)).headD 2, 0⟩ = true := by
      unfold jobMay
      refine decide_eq_true ?_
      dsimp only
      omega
    obtain ⟨q1, q2⟩ := left_one (now := (k + 1 : Nat) * p) hj0
    rw [if_pos (by dsimp only; omega)] at q1 q2
    have hj : jobMay (loneJ (deT p) ⟨(k : Int) * p, row.drop k⟩ k ((k + 1 : Nat) * p)) = true := by
      unfold jobMay loneJ deT relD
      refine decide_eq_true ?_
      dsimp only
      omega
    obtain ⟨p1, p2⟩ := putE_nil hj
    obtain ⟨r1, r2⟩ := lone_begin (i := 0) (l := 1) (t := deT p) (s := ⟨(k : Int) * p, row.drop k⟩) (q := k) (now := (k + 1 : Nat) * p) (js := [⟨0, (k : Int) - 1, 0, (k : Int) * p, (k : Int) * p + 5, (row.drop (k - 1)).headD 2, 0⟩]) hrel (by rw [q1]; exact p1)
    rw [q1, p2] at r1
    rw [q2] at r2
    rw [hB]
    refine ⟨?_, ?_⟩
    · rw [r1]
      unfold deB loneJ deT relD
      simp
    · rw [r2, if_neg h0]
      rfl
end Go.Proofs.Ytbkhnlacabaagaa
