/- A part that has all ticks: what its two tasks' responses are. -/
import Derived.Test.YthnecccakeminaaLeast
import Derived.Test.YthnecccakeminaaAdm4
set_option linter.unusedVariables false
set_option linter.unusedSimpArgs false
namespace Go.Proofs.Ythnecccakeminaa
open Go.RowKit

/-- A part that has all ticks of a frame of F; its two tasks. -/
def aloneCfg (F p x y : Int) : Config := ⟨F, 1, [⟨1, [⟨0, p, p, 1, y, 7⟩, ⟨0, p, p, 1, x, 3⟩], []⟩], [⟨0, F, 0⟩], []⟩
theorem alone_ok (F p x y : Int) (h1 : 1 ≤ F ∧ F ≤ 64) (h2 : 32 ≤ p ∧ p ≤ 543) (h3 : 1 ≤ x ∧ x ≤ 16) (h4 : 1 ≤ y ∧ y ≤ 16) : checkCfg (aloneCfg F p x y) = 0 := by
  unfold checkCfg aloneCfg
  simp only
  rw [if_neg (by omega), if_neg (by simp [levelMay]), if_neg, if_neg, if_neg (by simp), if_neg (by simp [codeMay])]
  · simp [windowsMay, winsFrom]
    omega
  · simp [tasksMay, tasksFrom, taskMay]
    omega
theorem alone_cnt (F : Nat) (p x y : Int) (h1 : 1 ≤ F) (n : Nat) : cnt (aloneCfg F p x y) 0 n = n := by
  induction n with
  | zero => rfl
  | succ n ih =>
    rw [cnt_step, ih]
    have e : ownerAt ((n : Int) % (aloneCfg F p x y).frame) (aloneCfg F p x y).windows = 0 := by
      show (if (0 : Int) ≤ (n : Int) % (F : Int) ∧ (n : Int) % (F : Int) < (F : Int) then (0 : Int) else -1) = 0
      rw [if_pos ⟨Int.emod_nonneg _ (by omega), Int.emod_lt_of_pos _ (by omega)⟩]
    rw [if_pos e]
    omega
theorem alone_least (F : Nat) (p x y : Int) (h1 : 1 ≤ F) (L : Nat) : leastN (aloneCfg F p x y) 0 L = L := by
  obtain ⟨s, -, e⟩ := leastN_get (aloneCfg F p x y) 0 F rfl h1 L
  rw [e, alone_cnt F p x y h1, alone_cnt F p x y h1]
  omega
/-- If there is all supply and what is asked for is B for every length, the response is B. -/
theorem respGo_full (c : Config) (p : Int) (ts : List Task) (i B D : Nat) (hs : ∀ l, 1 ≤ l → l ≤ D → (leastSpec c p l).1 = (l : Int)) (hb : ∀ l : Nat, 1 ≤ l → l ≤ D → boundOf ts i l = (B : Int)) (hB : B ≤ D) :
    ∀ m l, 1 ≤ l → l ≤ B → l + m = D + 1 → respGo c p ts i l m = ((B : Int), 0) := by
  intro m
  induction m with
  | zero => intro l h1 h2 h3; omega
  | succ m ih =>
    intro l h1 h2 h3
    unfold respGo
    rw [hs l h1 (by omega), hb l h1 (by omega)]
    by_cases e : (B : Int) ≤ (l : Int)
    · rw [if_pos e]
      have : l = B := by omega
      rw [this]
    · rw [if_neg e]
      exact ih (l + 1) (by omega) (by omega) (by omega)
theorem alone_quo (p : Int) (l : Nat) (h2 : 32 ≤ p) (h3 : 1 ≤ l) (h4 : (l : Int) ≤ p) : ((l : Int) + p - 1) / p = 1 := by
  have h : ((l : Int) + p - 1) = ((l : Int) - 1) + p := by omega
  rw [h, Int.add_ediv_of_dvd_right (Int.dvd_refl p), Int.ediv_self (by omega), Int.ediv_eq_zero_of_lt (by omega) (by omega)]
  omega
theorem alone_resp (F p x y : Int) (h1 : 1 ≤ F ∧ F ≤ 64) (h2 : 32 ≤ p ∧ p ≤ 543) (h3 : 1 ≤ x ∧ x ≤ 16) (h4 : 1 ≤ y ∧ y ≤ 16) :
    respIn (aloneCfg F p x y) 0 1 = (x, 0) ∧ respIn (aloneCfg F p x y) 0 0 = (x + y, 0) := by
  have hk := alone_ok F p x y h1 h2 h3 h4
  obtain ⟨F, rfl⟩ := Int.eq_ofNat_of_zero_le (show 0 ≤ F by omega)
  obtain ⟨D, rfl⟩ := Int.eq_ofNat_of_zero_le (show 0 ≤ p by omega)
  obtain ⟨X, rfl⟩ := Int.eq_ofNat_of_zero_le (show 0 ≤ x by omega)
  obtain ⟨Y, rfl⟩ := Int.eq_ofNat_of_zero_le (show 0 ≤ y by omega)
  have hs : ∀ l, 1 ≤ l → l ≤ D → (leastSpec (aloneCfg F D X Y) 0 l).1 = (l : Int) := by
    intro l _ hl
    rw [leastSpec_ok _ 0 l hk (by omega) (by show (0 : Int) < 1; omega) (by omega), alone_least F D X Y (by omega)]
  constructor
  · show respGo (aloneCfg F D X Y) 0 [⟨0, D, D, 1, Y, 7⟩, ⟨0, D, D, 1, X, 3⟩] 1 1 D = _
    refine respGo_full _ _ _ _ X D hs ?_ (by omega) D 1 (by omega) (by omega) (by omega)
    intro l _ _
    show (X : Int) + (ask1 3 l ⟨0, D, D, 1, Y, 7⟩ + (ask1 3 l ⟨0, D, D, 1, X, 3⟩ + 0)) = X
    unfold ask1
    simp
  · show respGo (aloneCfg F D X Y) 0 [⟨0, D, D, 1, Y, 7⟩, ⟨0, D, D, 1, X, 3⟩] 0 1 D = _
    rw [show ((X : Int) + (Y : Int)) = ((X + Y : Nat) : Int) by omega]
    refine respGo_full _ _ _ _ (X + Y) D hs ?_ (by omega) D 1 (by omega) (by omega) (by omega)
    intro l hl hl2
    show (Y : Int) + (ask1 7 l ⟨0, D, D, 1, Y, 7⟩ + (ask1 7 l ⟨0, D, D, 1, X, 3⟩ + 0)) = ((X + Y : Nat) : Int)
    unfold ask1
    simp only
    rw [if_neg (by decide), if_pos (by decide), alone_quo D l (by omega) hl (by omega)]
    omega
theorem alone_admit (F p x y : Int) (h1 : 1 ≤ F ∧ F ≤ 64) (h2 : 32 ≤ p ∧ p ≤ 543) (h3 : 1 ≤ x ∧ x ≤ 16) (h4 : 1 ≤ y ∧ y ≤ 16) : admitSpec (aloneCfg F p x y) = 0 := by
  have hk := alone_ok F p x y h1 h2 h3 h4
  obtain ⟨e1, e0⟩ := alone_resp F p x y h1 h2 h3 h4
  have h5 : lateFrom (aloneCfg F p x y) 0 (aloneCfg F p x y).parts = false := by
    show ((decide ((1 : Int) = 1) && (decide ((respIn (aloneCfg F p x y) 0 0).2 ≠ 0) || (decide ((respIn (aloneCfg F p x y) 0 1).2 ≠ 0) || false))) || false) = false
    rw [e1, e0]
    simp
  have h6 : noneFrom (aloneCfg F p x y) 0 (aloneCfg F p x y).parts = false := by
    show ((decide ((1 : Int) = 0) && decide (shareOf 0 (aloneCfg F p x y).windows = 0)) || false) = false
    simp
  unfold admitSpec
  rw [if_neg (by omega), h5, h6]
  rfl
theorem alone_spec (F p x y : Int) (h1 : 1 ≤ F ∧ F ≤ 64) (h2 : 32 ≤ p ∧ p ≤ 543) (h3 : 1 ≤ x ∧ x ≤ 16) (h4 : 1 ≤ y ∧ y ≤ 16) :
    respSpec (aloneCfg F p x y) 0 1 = (x, 0) ∧ respSpec (aloneCfg F p x y) 0 0 = (x + y, 0) := by
  have hk := alone_ok F p x y h1 h2 h3 h4
  obtain ⟨e1, e0⟩ := alone_resp F p x y h1 h2 h3 h4
  constructor
  · exact (respSpec_in (c := aloneCfg F p x y) (P := 0) (I := 1) hk (by show 0 < 1; omega) rfl (by show 1 < 2; omega)).trans e1
  · exact (respSpec_in (c := aloneCfg F p x y) (P := 0) (I := 0) hk (by show 0 < 1; omega) rfl (by show 0 < 2; omega)).trans e0
end Go.Proofs.Ythnecccakeminaa
