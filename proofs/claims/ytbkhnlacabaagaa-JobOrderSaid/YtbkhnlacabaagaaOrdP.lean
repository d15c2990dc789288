/- JobOrder, plainly: of several tasks the one of the least Prio stands first. -/
import Derived.Test.YtbkhnlacabaagaaTickP
import Derived.Test.YtbkhnlacabaagaaMissP
set_option linter.unusedVariables false
set_option linter.unusedSimpArgs false
namespace Go.Proofs.Ytbkhnlacabaagaa
open Go.RowKit

def orT (pr : Int) : Task := ⟨1, 90, 90, 9, 9, pr⟩
def orPr (xs : List Int) (i : Nat) : Int := (xs.getD i 0 % 32) * 8 + i
def orTs (xs : List Int) (n : Nat) : List Task := (List.range n).map (fun i => orT (orPr xs i))
theorem orPr_b (xs : List Int) {i : Nat} (h : i < 5) : 0 ≤ orPr xs i ∧ orPr xs i ≤ 255 ∧ orPr xs i % 8 = i := by
  unfold orPr
  omega
theorem orPr_ne (xs : List Int) {i j : Nat} (hi : i < 5) (hj : j < 5) (h : orPr xs i = orPr xs j) : i = j := by
  have h1 := (orPr_b xs hi).2.2
  have h2 := (orPr_b xs hj).2.2
  rw [h] at h1
  omega
theorem orT_may {pr : Int} (h : 0 ≤ pr ∧ pr ≤ 255) : taskMay (orT pr) = true := by
  unfold taskMay orT
  refine decide_eq_true ?_
  dsimp only
  omega
theorem tasksFrom_ok {l : Int} {ts : List Task} (hl : l ≠ 0) : ∀ (r : List Task) (k : Nat), (∀ t ∈ r, taskMay t = true) → (∀ i (h : i < r.length), ∀ x ∈ ts.take (k + i), x.prio ≠ r[i].prio) → tasksFrom l ts k r = true
  | [], _, _, _ => rfl
  | t :: r, k, h1, h2 => by
    unfold tasksFrom
    rw [h1 t (by simp), tasksFrom_ok hl r (k + 1) (fun x hx => h1 x (by simp [hx])) (fun i hi x hx => by
      have := h2 (i + 1) (by simpa using hi) x (by rw [show k + (i + 1) = k + 1 + i by omega]; exact hx)
      simpa using this)]
    have h3 : ((ts.take k).any fun x => decide (x.prio = t.prio)) = false := by
      rw [List.any_eq_false]
      intro x hx
      have := h2 0 (by simp) x (by simpa using hx)
      simpa using this
    simp [hl, h3]
theorem or_new (xs : List Int) {n : Nat} (h : n ≤ 5) : newBad 0 ⟨1, orTs xs n, []⟩ = false := by
  refine newBad_ok (by decide) (by decide) rfl ?_ rfl
  unfold tasksMay
  have hlen : (orTs xs n).length = n := by simp [orTs]
  simp only [Bool.and_eq_true, decide_eq_true_eq]
  refine ⟨by rw [hlen]; omega, tasksFrom_ok (by decide) _ _ (fun t ht => ?_) (fun i hi x hx => ?_)⟩
  · unfold orTs at ht
    obtain ⟨i, hi, rfl⟩ := List.mem_map.1 ht
    have := orPr_b xs (i := i) (by have := List.mem_range.1 hi; omega)
    exact orT_may ⟨this.1, this.2.1⟩
  · rw [hlen] at hi
    obtain ⟨j, hj, rfl⟩ := List.getElem_of_mem hx
    rw [List.length_take, hlen] at hj
    simp only [List.getElem_take, orTs, List.getElem_map, List.getElem_range, orT]
    intro e
    have := orPr_ne xs (by omega) (by omega) e
    omega
/-- What holds when the first i tasks have come. -/
structure OrI (xs : List Int) (n : Nat) (d : Int) (i : Nat) (S : LSt) : Prop where
  idx : S.idx = 0 ∧ S.lvl = 1
  len : S.rs.length = n
  run : ∀ j, j < n → S.run j = if j < i then ⟨orT (orPr xs j), ⟨j, []⟩, 1⟩ else ⟨orT (orPr xs j), ⟨-1, []⟩, 0⟩
  js : S.js.length = i
  mem : ∀ x ∈ S.js, ∃ j : Nat, j < i ∧ x = ⟨j, 0, orPr xs j, j, j + 90, d, 0⟩
  all : ∀ j : Nat, j < i → (⟨j, 0, orPr xs j, j, j + 90, d, 0⟩ : Job) ∈ S.js
  may : jobsMay S.js = true
theorem or_start (xs : List Int) {n : Nat} (h : n ≤ 5) (d : Int) : OrI xs n d 0 (newL 0 ⟨1, orTs xs n, []⟩) := by
  refine ⟨⟨rfl, rfl⟩, by simp [newL, orTs], fun j hj => ?_, rfl, fun x hx => (by cases hx), fun j hj => absurd hj (by omega), rfl⟩
  rw [if_neg (by omega)]
  unfold LSt.run newL orTs
  simp [List.getD_eq_getElem?_getD, hj]
theorem relIs_nil {t : Task} {l now : Int} (h : t.kind = 1) : relIs t ⟨l, []⟩ now = false := by
  unfold relIs comesB
  rw [if_neg (by rw [h]; decide)]
  simp
theorem relS_no {S : LSt} {a : Nat} {now : Int} (h : relIs (S.run a).t (S.run a).s now = false) : relS S a now = S ∧ relEv S a now = [] := by
  constructor
  · unfold relS
    rw [if_neg (by rw [h]; decide)]
  · unfold relEv
    rw [if_neg (fun q => by rw [h] at q; exact absurd q.1 (by decide))]
/-- Where no job of the tasks from a on (but k) comes, the releases are that one's. -/
theorem relN_one {S : LSt} {now : Int} {k n : Nat} (hk : k < n) (hn : n ≤ S.rs.length) (hno : ∀ j, j < n → j ≠ k → relIs (S.run j).t (S.run j).s now = false) :
    ∀ a, a ≤ n → relN S now a = if k < a then (relS S k now, relEv S k now) else (S, [])
  | 0, _ => by rw [if_neg (by omega)]; rfl
  | a + 1, ha => by
    have ih := relN_one hk hn hno a (by omega)
    simp only [relN]
    rw [ih]
    by_cases h1 : k < a
    · rw [if_pos h1, if_pos (by omega)]
      have hrun : (relS S k now).run a = S.run a := by
        have hkl : k < S.rs.length := by omega
        unfold relS
        split
        · split
          · show (S.setR k _).run a = _
            rw [run_set hkl, if_neg (by omega)]
          · rw [run_set hkl, if_neg (by omega)]
        · rfl
      have hf : relIs ((relS S k now).run a).t ((relS S k now).run a).s now = false := by rw [hrun]; exact hno a (by omega) (by omega)
      obtain ⟨e1, e2⟩ := relS_no hf
      simp only [e1, e2, List.append_nil]
    · rw [if_neg h1]
      by_cases h2 : a = k
      · subst h2
        rw [if_pos (by omega)]
        simp
      · rw [if_neg (by omega)]
        have hf := hno a (by omega) h2
        obtain ⟨e1, e2⟩ := relS_no hf
        simp only [e1, e2, List.append_nil]
theorem hit_not {js : List Job} {x : Job} (h : ∀ y ∈ js, y.prio ≠ x.prio) : hit js x = false := by
  unfold hit
  rw [decide_eq_false_iff_not]
  intro e
  cases hp : js[pos js x]? with
  | none => rw [hp] at e; cases e
  | some y =>
    rw [hp] at e
    simp only [Option.map_some, Option.some.injEq] at e
    obtain ⟨h1, h2⟩ := (cmpJ_zero y x).1 e
    have hy := h y (List.mem_of_getElem? hp)
    unfold ahead at h1 h2
    simp only [decide_eq_false_iff_not, not_or] at h1 h2
    omega
theorem or_step {xs : List Int} {n : Nat} (hn5 : n ≤ 5) {d : Int} (hd : 1 ≤ d) (hd2 : d ≤ 4) {i : Nat} (hi : i < n) {S : LSt} (h : OrI xs n d i S) :
    pickErr S i d i = 0 ∧ OrI xs n d (i + 1) (begS (pickSt S i d i) i) := by
  have hc : clockB (i : Int) = true := clockYes (by omega) (by omega)
  have hb := orPr_b xs (i := i) (by omega)
  have ht := orT_may (pr := orPr xs i) ⟨hb.1, hb.2.1⟩
  have hdm : demP d = true := by unfold demP; refine decide_eq_true ?_; omega
  have hri := h.run i hi
  rw [if_neg (by omega)] at hri
  have hpe : pickErr S i d i = 0 := by
    unfold pickErr
    rw [if_neg (by rw [hc, h.len]; simp; omega)]
    rw [show ((i : Int)).toNat = i from rfl, hri]
    unfold pickE
    rw [pair_nil ht (by decide) (by decide), hdm]
    rfl
  refine ⟨hpe, ?_⟩
  have hps : pickSt S i d i = S.setR i ⟨orT (orPr xs i), ⟨-1, [d]⟩, 0⟩ := by
    unfold pickSt
    rw [if_pos hpe, show ((i : Int)).toNat = i from rfl, hri]
    rfl
  rw [hps]
  obtain ⟨P, hP⟩ : ∃ P, P = S.setR i ⟨orT (orPr xs i), ⟨-1, [d]⟩, 0⟩ := ⟨_, rfl⟩
  rw [← hP]
  have hil : i < S.rs.length := by rw [h.len]; exact hi
  have hPl : P.rs.length = n := by rw [hP]; simp [LSt.setR, h.len]
  have hPj : P.js = S.js := by rw [hP]; rfl
  have hPr : ∀ j, P.run j = if j = i then ⟨orT (orPr xs i), ⟨-1, [d]⟩, 0⟩ else S.run j := fun j => by rw [hP]; exact run_set hil
  have hleft : leftJ P.js i = P.js := by
    unfold leftJ
    rw [hPj, if_pos h.may]
    rw [List.filter_eq_self]
    intro x hx
    obtain ⟨j, hj, rfl⟩ := h.mem x hx
    unfold leftP
    simp only [Bool.not_eq_true', decide_eq_false_iff_not]
    omega
  have hP' : ({ P with js := leftJ P.js i } : LSt) = P := by rw [hleft]
  have hbeg : begS P i = relS P i i := by
    unfold begS
    rw [hP', relN_one (k := i) (n := n) hi (by rw [hPl]; exact Nat.le_refl _) (fun j hj hne => by
      rw [hPr, if_neg hne, h.run j hj]
      split <;> exact relIs_nil rfl) P.rs.length (by rw [hPl]; exact Nat.le_refl _), if_pos (by rw [hPl]; exact hi)]
  have hPi : P.run i = ⟨orT (orPr xs i), ⟨-1, [d]⟩, 0⟩ := by rw [hPr, if_pos rfl]
  have hrel : relIs (P.run i).t (P.run i).s i = true := by
    rw [hPi]
    unfold relIs
    rw [hc, show pairMay (orT (orPr xs i)) ⟨-1, [d]⟩ = true by unfold pairMay; simp [ht, hdm]]
    rw [show comesB (orT (orPr xs i)) ⟨-1, [d]⟩ i = true by unfold comesB soonB orT; simp]
    rfl
  obtain ⟨J, hJ⟩ : ∃ J : Job, J = ⟨i, 0, orPr xs i, i, i + 90, d, 0⟩ := ⟨_, rfl⟩
  have hrj : relJ (P.run i) i i = J := by rw [hPi, hJ]; rfl
  have hJm : jobMay J = true := by
    rw [hJ]
    unfold jobMay
    refine decide_eq_true ?_
    dsimp only
    omega
  have hput : putE P.js J = 0 := by
    unfold putE
    rw [hPj, h.may, hJm, hit_not (fun y hy => ?_), if_neg (by simp), if_neg (by decide), if_neg (by rw [h.js]; omega)]
    obtain ⟨j, hj, rfl⟩ := h.mem y hy
    rw [hJ]
    intro e
    have := orPr_ne xs (by omega) (by omega) e
    omega
  have hrs : relS P i i = { (P.setR i { (P.run i).went i with seq := (P.run i).seq + 1 }) with js := putL P.js J } := by
    unfold relS
    rw [if_pos hrel, hrj, if_pos hput]
  rw [hbeg, hrs]
  have hil2 : i < P.rs.length := by rw [hPl]; exact hi
  refine ⟨by rw [hP]; exact h.idx, by simp [LSt.setR, hPl], fun j hj => ?_, ?_, fun x hx => ?_, fun j hj => ?_, putL_may hput⟩
  · show (P.setR i _).run j = _
    rw [run_set hil2]
    by_cases hji : j = i
    · subst hji
      rw [if_pos rfl, if_pos (by omega), hPi]
      rfl
    · rw [if_neg hji, hPr, if_neg hji, h.run j hj]
      by_cases hlt : j < i
      · rw [if_pos hlt, if_pos (by omega)]
      · rw [if_neg hlt, if_neg (by omega)]
  · show (putL P.js J).length = _
    rw [putL_len, hPj, h.js]
  · rcases putL_mem.1 hx with hx | rfl
    · rw [hPj] at hx
      obtain ⟨j, hj, e⟩ := h.mem x hx
      exact ⟨j, by omega, e⟩
    · exact ⟨i, by omega, hJ⟩
  · refine putL_mem.2 ?_
    by_cases hji : j = i
    · right
      rw [hji, hJ]
    · left
      rw [hPj]
      exact h.all j (by omega)
theorem head_le {js : List Job} (h : jobsMay js = true) {j : Job} {r : List Job} (e : js = j :: r) : ∀ x ∈ js, j.prio ≤ x.prio := by
  subst e
  intro x hx
  rcases List.mem_cons.1 hx with rfl | hx
  · exact Int.le_refl _
  · have h1 := ((jobsMay_pw _).1 h).2.1
    have := (List.pairwise_cons.1 h1).1 x hx
    unfold ahead at this
    simp only [decide_eq_true_eq] at this
    omega
/-- How much is still to be run. -/
def left_ (d : Int) (js : List Job) : Int := (js.map (fun j => d - j.used)).sum
/-- What holds while they run. -/
structure OrR (xs : List Int) (n : Nat) (d : Int) (k : Int) (last : Int) (S : LSt) : Prop where
  len : S.rs.length = n
  run : ∀ j, j < n → (S.run j).t = orT (orPr xs j)
  lvl : S.lvl = 1
  may : jobsMay S.js = true
  job : ∀ x ∈ S.js, x.demand = d ∧ 0 ≤ x.task ∧ x.task < n ∧ last ≤ x.prio
  sum : left_ d S.js = n * d - k
theorem or_run0 {xs : List Int} {n : Nat} {d : Int} {S : LSt} (h : OrI xs n d n S) : OrR xs n d 0 (-1) S := by
  refine ⟨h.len, fun j hj => by rw [h.run j hj, if_pos hj], h.idx.2, h.may, fun x hx => ?_, ?_⟩
  · obtain ⟨j, hj, rfl⟩ := h.mem x hx
    refine ⟨rfl, by dsimp only; omega, by dsimp only; omega, ?_⟩
    have hm := ((jobsMay_pw _).1 h.may).1 _ hx
    unfold jobMay at hm
    simp only [decide_eq_true_eq] at hm
    dsimp only at hm ⊢
    omega
  · have h1 : ∀ js : List Job, (∀ x ∈ js, x.used = 0) → left_ d js = js.length * d := by
      intro js
      induction js with
      | nil => intro _; simp [left_]
      | cons x r ih =>
        intro hx
        have := ih (fun y hy => hx y (by simp [hy]))
        unfold left_ at this ⊢
        simp only [List.map_cons, List.sum_cons, List.length_cons]
        rw [this, hx x (by simp)]
        rw [Int.natCast_add, Int.add_mul]
        simp
        omega
    rw [h1 S.js (fun x hx => by obtain ⟨j, hj, rfl⟩ := h.mem x hx; rfl), h.js]
    simp
theorem or_go {xs : List Int} {n : Nat} {d k last : Int} (hd : 1 ≤ d) (hd2 : d ≤ 4) {S : LSt} (h : OrR xs n d k last S) {j : Job} {r : List Job} (e : S.js = j :: r) : last ≤ j.prio ∧ OrR xs n d (k + 1) j.prio (runS S) := by
  obtain ⟨q1, q2, q3, q4⟩ := h.job j (by rw [e]; simp)
  have hle := head_le h.may e
  have hjm := ((jobsMay_pw _).1 h.may).1 j (by rw [e]; simp)
  have hu : 0 ≤ j.used ∧ j.used < d := by
    unfold jobMay at hjm
    simp only [decide_eq_true_eq] at hjm
    omega
  have hh : S.hd = j := by unfold LSt.hd; rw [e]; rfl
  have hv : runV S = chV j (orT (orPr xs j.task.toNat)) 1 := by
    unfold runV
    rw [hh, e, h.lvl, h.run j.task.toNat (by omega)]
    rfl
  have hch : chV j (orT (orPr xs j.task.toNat)) 1 = ⟨false, j.used + 1 == d, false⟩ := by
    unfold chV orT limI
    have e1 : (j.used + 1 == (9 : Int)) = false := by rw [beq_eq_false_iff_ne]; omega
    simp [e1, q1]
  have hrS : runS S = if (j.used + 1 == d) = true then { S with js := r } else { S with js := chJ j :: r } := by
    unfold runS
    rw [hv, hch, hh, e]
    simp
  refine ⟨q4, ?_⟩
  have hsum := h.sum
  rw [e] at hsum
  unfold left_ at hsum
  simp only [List.map_cons, List.sum_cons] at hsum
  have hm := h.may
  rw [e] at hm
  have hjob : ∀ x ∈ r, x.demand = d ∧ 0 ≤ x.task ∧ x.task < n ∧ j.prio ≤ x.prio := fun x hx => by
    obtain ⟨p1, p2, p3, -⟩ := h.job x (by rw [e]; simp [hx])
    exact ⟨p1, p2, p3, hle x (by rw [e]; simp [hx])⟩
  rw [hrS]
  by_cases hdn : j.used + 1 = d
  · rw [if_pos (by simpa using hdn)]
    refine ⟨h.len, h.run, h.lvl, jobsMay_tail hm, hjob, ?_⟩
    show left_ d r = _
    unfold left_
    omega
  · rw [if_neg (by simpa using hdn)]
    have hcm : jobMay (chJ j) = true := by
      unfold jobMay chJ at *
      simp only [decide_eq_true_eq] at hjm ⊢
      omega
    refine ⟨h.len, h.run, h.lvl, jobsMay_head hm hcm rfl rfl rfl, fun x hx => ?_, ?_⟩
    · rcases List.mem_cons.1 hx with rfl | hx
      · exact ⟨q1, q2, q3, Int.le_refl _⟩
      · exact hjob x hx
    · show left_ d (chJ j :: r) = _
      unfold left_ chJ
      simp only [List.map_cons, List.sum_cons]
      omega
/-- At the end there is none left. -/
theorem or_end {xs : List Int} {n : Nat} {d k last : Int} (hn : n ≤ 5) (hd : 1 ≤ d) {S : LSt} (h : OrR xs n d k last S) (hk : 5 * d ≤ k) : S.js = [] := by
  have h1 : ∀ js : List Job, (∀ x ∈ js, x.used < d) → (js.length : Int) ≤ left_ d js := by
    intro js
    induction js with
    | nil => intro _; simp [left_]
    | cons x r ih =>
      intro hx
      have := ih (fun y hy => hx y (by simp [hy]))
      have h2 := hx x (by simp)
      unfold left_ at this ⊢
      simp only [List.map_cons, List.sum_cons, List.length_cons]
      omega
  have h2 := h1 S.js (fun x hx => by
    have hm := ((jobsMay_pw _).1 h.may).1 x hx
    have hj := (h.job x hx).1
    unfold jobMay at hm
    simp only [decide_eq_true_eq] at hm
    omega)
  rw [h.sum] at h2
  have h3 : (n : Int) * d ≤ 5 * d := Int.mul_le_mul_of_nonneg_right (by omega) (by omega)
  exact List.length_eq_zero_iff.1 (by omega)
end Go.Proofs.Ytbkhnlacabaagaa
