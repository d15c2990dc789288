/- KernelInputs, plainly. -/
import Derived.Test.YtooeeiiiflfckaaGreatRunP
set_option linter.unusedVariables false
set_option linter.unusedSimpArgs false
namespace Go.Proofs.YtooeeiiiflfckaaGreat
open Go.RowKit
def inCfg : Config := ⟨30, 1, [⟨1, [⟨0, 30, 30, 20, 20, 0⟩], [⟨8, 0⟩]⟩], [⟨0, 30, 0⟩], []⟩
theorem in_admit : admitSpec inCfg = 0 := by kernel_rfl
def inE (ws : List Int) : List Entry := ws.map (fun x => ⟨0, 1, 0, 0, x⟩)
def inR (ws : List Int) : List Int := ws.foldl (pushQ 16) []
theorem inR_snoc (ws : List Int) (x : Int) : inR (ws ++ [x]) = pushQ 16 (inR ws) x := by simp [inR]
theorem pushQ_mem {q : List Int} {x y : Int} (h : y ∈ pushQ 16 q x) : y ∈ q ∨ y = x := by
 unfold pushQ at h
 split at h
 all_goals
  rcases List.mem_append.1 h with h | h
  ·first | exact .inl h | exact .inl (List.mem_of_mem_tail h)
  ·exact .inr (by simpa using h)
def inWord (q : List Int) : Prop := ∀ x ∈ q, 0 <= x /\ x <= 65535
theorem inR_word {ws : List Int} : ∀ q, inWord q -> inWord ws -> inWord (ws.foldl (pushQ 16) q) := by
 induction ws with
 | nil => intro q h _; exact h
 | cons x r ih =>
  intro q h h2
  refine ih _ (fun y hy => ?_) (fun y hy => h2 y (List.mem_cons_of_mem _ hy))
  rcases pushQ_mem hy with hy | rfl
  ·exact h y hy
  ·exact h2 y (by simp)
def inS (i : Nat) (q : List Int) (a : Int) : KSt :=
 ⟨i, 0, ⟨0, 0, 0, -1⟩, ⟨0, 0, false⟩, inCfg, [⟨⟨0, 1, [⟨⟨0, 30, 30, 20, 20, 0⟩, ⟨if i = 0 then -1 else 0, []⟩, if i = 0 then 0 else 1⟩], if i = 0 ∨ 20 <= i then [] else [⟨0, 0, 0, 0, 30, 20, i⟩]⟩, 1, [⟨8, 0⟩], ⟨0, a, List.replicate 16 0⟩, q⟩], []⟩
def inB (i : Nat) (q : List Int) (a : Int) : KSt :=
 ⟨i, 0, ⟨0, 0, 0, -1⟩, ⟨0, 0, false⟩, inCfg, [⟨⟨0, 1, [⟨⟨0, 30, 30, 20, 20, 0⟩, ⟨0, []⟩, 1⟩], [⟨0, 0, 0, 0, 30, 20, i⟩]⟩, 1, [⟨8, 0⟩], ⟨0, a, List.replicate 16 0⟩, q⟩], []⟩
theorem in_new : newK inCfg 0 = inS 0 [] 0 := by kernel_rfl
theorem in_begin {i : Nat} (hi : i < 20) (q : List Int) (a : Int) : boundK (inS i q a) = (inS i q a, []) /\ (beginsK (inS i q a) 1).1 = inB i q a /\ ownerK (inB i q a) = (inB i q a, 0, false) := by
 have : i = 0 ∨ i = 1 ∨ i = 2 ∨ i = 3 ∨ i = 4 ∨ i = 5 ∨ i = 6 ∨ i = 7 ∨ i = 8 ∨ i = 9 ∨ i = 10 ∨ i = 11 ∨ i = 12 ∨ i = 13 ∨ i = 14 ∨ i = 15 ∨ i = 16 ∨ i = 17 ∨ i = 18 ∨ i = 19 := by omega
 rcases this with rfl | rfl | rfl | rfl | rfl | rfl | rfl | rfl | rfl | rfl | rfl | rfl | rfl | rfl | rfl | rfl | rfl | rfl | rfl | rfl <;> exact ⟨by kernel_rfl, by kernel_rfl, by kernel_rfl⟩
theorem in_step {q : List Int} {a : Int} (hq : inWord q) (ha : 0 <= a /\ a <= 65535) : stepV [⟨8, 0⟩] ⟨0, a, List.replicate 16 0⟩ (q.headD 0) 0 [] = (⟨0, q.headD 0, List.replicate 16 0⟩, ⟨true, -1, -1, 0, false⟩, 0) := by
 have hh : 0 <= q.headD 0 /\ q.headD 0 <= 65535 := by
  cases q with
  | nil => simp
  | cons x r => exact hq x (by simp)
 unfold stepV
 rw [if_neg]
 ·rfl
 ·have h1 : word a = true := by unfold word; exact decide_eq_true (by omega)
  have h2 : word (q.headD 0) = true := by unfold word; exact decide_eq_true (by omega)
  have h3 : codeMay [⟨8, 0⟩] = true := by kernel_rfl
  have h4 : vmMay [⟨8, 0⟩] ⟨0, a, List.replicate 16 0⟩ = true := by
   unfold vmMay
   simp only [h1]
   kernel_rfl
  have h5 : aroundMay (q.headD 0) 0 [] = true := by
   unfold aroundMay
   rw [h2]
   rfl
  rw [h3, h4, h5]
  simp
theorem in_tick {i : Nat} (hi : i < 20) {q : List Int} {a : Int} (hq : inWord q) (ha : 0 <= a /\ a <= 65535) : (stepK (inB i q a) 0).1 = { inS (i + 1) q.tail (q.headD 0) with now := (i : Int) } := by
 have hs : stepV ((inB i q a).seat 0).code ((inB i q a).seat 0).vm (((inB i q a).seat 0).inp.headD 0) (outsS (inB i q a).ports (0 : Nat)) (getsS (inB i q a).ports (0 : Nat)) = (⟨0, q.headD 0, List.replicate 16 0⟩, ⟨true, -1, -1, 0, false⟩, 0) := in_step hq ha
 unfold stepK
 simp only [hs]
 have : i = 0 ∨ i = 1 ∨ i = 2 ∨ i = 3 ∨ i = 4 ∨ i = 5 ∨ i = 6 ∨ i = 7 ∨ i = 8 ∨ i = 9 ∨ i = 10 ∨ i = 11 ∨ i = 12 ∨ i = 13 ∨ i = 14 ∨ i = 15 ∨ i = 16 ∨ i = 17 ∨ i = 18 ∨ i = 19 := by omega
 rcases this with rfl | rfl | rfl | rfl | rfl | rfl | rfl | rfl | rfl | rfl | rfl | rfl | rfl | rfl | rfl | rfl | rfl | rfl | rfl | rfl <;> first | kernel_rfl | rfl
theorem entersK_far {es : List Entry} : ∀ {K : KSt}, (∀ e ∈ es, e.at_ ≠ K.now) -> entersK K es = (K, []) := by
 induction es with
 | nil => intro K _; rfl
 | cons e r ih =>
  intro K h
  have h1 : enterK K e = (K, []) := by
   unfold enterK
   rw [if_pos (.inl (h e (by simp)))]
  simp only [entersK, h1]
  rw [ih (fun x hx => h x (List.mem_cons_of_mem _ hx))]
  rfl
theorem in_enter {ws : List Int} : ∀ q, inWord ws -> (entersK (inS 0 q 0) (inE ws)).1 = inS 0 (ws.foldl (pushQ 16) q) 0 := by
 induction ws with
 | nil => intro q _; rfl
 | cons x r ih =>
  intro q h
  have hx := h x (by simp)
  have h1 : enterK (inS 0 q 0) ⟨0, 1, 0, 0, x⟩ = (inS 0 (pushQ 16 q x) 0, []) := by
   unfold enterK
   rw [if_neg]
   ·rfl
   ·have hw : word x = true := by unfold word; exact decide_eq_true (by omega)
    have hf : fits (inS 0 q 0).cfg ⟨0, 1, 0, 0, x⟩ = true := by
     simp [fits, clockB, inS, inCfg, hw]
    rw [hf]
    simp [inS]
  show (entersK (enterK (inS 0 q 0) ⟨0, 1, 0, 0, x⟩).1 (inE r)).1 = _
  rw [h1]
  exact ih _ (fun y hy => h y (List.mem_cons_of_mem _ hy))
def inK (ws : List Int) : Nat -> KSt := runK (newK inCfg 0) (fun _ => inE ws)
theorem in_e (ws : List Int) (hl : ws.length <= 40) {i : Nat} {q : List Int} {a : Int} (hi : i <= 20) : tickE (inS i q a) (inE ws) = 0 := by
 unfold tickE
 rw [if_neg (by show ¬ (i : Int) = 1099511627776; omega), if_neg (by simp [inE]; omega)]
theorem in_one {ws : List Int} (hl : ws.length <= 40) {i : Nat} (hi : i < 20) {q q2 : List Int} {a : Int} (hq2 : inWord q2) (ha : 0 <= a /\ a <= 65535) (he : (entersK (inS i q a) (inE ws)).1 = inS i q2 a) : (tickK (inS i q a) (inE ws)).1 = inS (i + 1) q2.tail (q2.headD 0) := by
 obtain ⟨A, B, O, D, hA, hB, hO, hD, hT⟩ := tickK_go (in_e ws hl (q := q) (a := a) (Nat.le_of_lt hi))
 obtain ⟨b1, -, -⟩ := in_begin hi q a
 obtain ⟨-, b2, b3⟩ := in_begin hi q2 a
 rw [b1] at hA
 have hA1 : A.1 = inS i q2 a := by rw [hA]; exact he
 rw [hA1] at hB
 have hB1 : B.1 = inB i q2 a := by rw [hB]; exact b2
 rw [hB1, b3] at hO
 rw [hO] at hD
 simp only [Int.le_refl, if_true] at hD
 rw [hT, hD]
 show ({ (stepK (inB i q2 a) 0).1 with now := (i : Int) + 1 } : KSt) = _
 rw [in_tick hi hq2 ha]
 rfl
theorem in_run {ws : List Int} (hl : ws.length <= 40) (hw : inWord ws) : ∀ i, i <= 20 -> inK ws i = if i = 0 then inS 0 [] 0 else inS i ((inR ws).drop i) ((inR ws).getD (i - 1) 0)
 | 0, _ => by rw [if_pos rfl]; exact in_new
 | i + 1, h => by
  have ih := in_run hl hw i (by omega)
  have hR := inR_word (ws := ws) [] (fun x hx => by cases hx) hw
  rw [if_neg (by omega)]
  show (tickK (inK ws i) (inE ws)).1 = _
  rw [ih]
  by_cases h0 : i = 0
  ·subst h0
   rw [if_pos rfl, in_one hl (by decide) (q2 := inR ws) hR (by decide) (in_enter [] hw)]
   congr 1
   ·cases inR ws <;> rfl
   ·cases inR ws <;> rfl
  ·rw [if_neg h0]
   have ha : 0 <= (inR ws).getD (i - 1) 0 /\ (inR ws).getD (i - 1) 0 <= 65535 := by
    rw [List.getD_eq_getElem?_getD]
    cases hg : (inR ws)[i - 1]? with
    | none => simp
    | some x => exact hR x (List.mem_of_getElem? hg)
   have hd : inWord ((inR ws).drop i) := fun x hx => hR x (List.mem_of_mem_drop hx)
   rw [in_one hl (by omega) hd ha (by
    rw [entersK_far]
    intro e he
    unfold inE at he
    obtain ⟨x, -, rfl⟩ := List.mem_map.1 he
    show (0 : Int) ≠ (i : Int)
    omega)]
   congr 1
   ·rw [List.tail_drop]
   ·rw [List.getD_eq_getElem?_getD]
    show ((inR ws).drop i).headD 0 = _
    rw [List.headD_eq_head?_getD, List.head?_drop]
    rfl
theorem in_acc {ws : List Int} (hl : ws.length <= 40) (hw : inWord ws) {i : Nat} (hi : i < 20) : ((inK ws (i + 1)).seat 0).vm.acc = (inR ws).getD i 0 /\ (inK ws (i + 1)).seats.length = 1 /\ tickE (inK ws i) (inE ws) = 0 := by
 have h1 := in_run hl hw (i + 1) (by omega)
 have h0 := in_run hl hw i (by omega)
 rw [h1, if_neg (by omega)]
 refine ⟨rfl, rfl, ?_⟩
 rw [h0]
 split
 ·exact in_e ws hl (by omega)
 ·exact in_e ws hl (by omega)
end Go.Proofs.YtooeeiiiflfckaaGreat
