/- package jobs, plainly: a schedule from tick to tick: never two jobs of one task, each job as its task says. -/
import Derived.Test.YtbkhnlacabaagaaLocI
set_option linter.unusedVariables false
set_option linter.unusedSimpArgs false
namespace Go.Proofs.Ytbkhnlacabaagaa
open Go.RowKit

/-- A part as a value. -/
def PartV (W : World) (v : Value) (p : Part) : Prop := ∃ tv cv, v = .agg #[.int .i64 p.level, tv, cv] ∧ PartIs W tv cv p
/-- A job as its task's turns say. -/
def jobOf (S : LSt) (j : Job) : Prop := j.release = (S.run j.task.toNat).s.last ∧ j.deadline = (S.run j.task.toNat).s.last + (S.run j.task.toNat).t.deadline ∧ j.prio = (S.run j.task.toNat).t.prio
/-- What holds of a schedule ahead of a tick. -/
structure LInv (S : LSt) (now : Int) : Prop where
  last : ∀ r ∈ S.rs, r.s.last < now ∧ (r.t.kind = 0 → r.s.last = -1 ∨ r.s.last % r.t.period = 0)
  job : ∀ j ∈ S.js, jobOf S j
  nd : (S.js.map (·.task)).Nodup
/-- What holds while the tasks' releases go on: the first k are through. -/
structure MInv (S : LSt) (now : Int) (k : Nat) : Prop where
  last : ∀ i, i < S.rs.length → (S.run i).s.last ≤ now ∧ (k ≤ i → (S.run i).s.last < now) ∧ ((S.run i).t.kind = 0 → (S.run i).s.last = -1 ∨ (S.run i).s.last % (S.run i).t.period = 0)
  job : ∀ j ∈ S.js, jobOf S j ∧ now < j.deadline ∧ j.release ≤ now
  nd : (S.js.map (·.task)).Nodup
theorem run_set {S : LSt} {k i : Nat} {r : TRun} (hk : k < S.rs.length) : (S.setR k r).run i = if i = k then r else S.run i := by
  unfold LSt.run LSt.setR
  simp only [List.getD_eq_getElem?_getD, List.getElem?_set]
  by_cases h : k = i
  · subst h
    simp [hk]
  · rw [if_neg h, if_neg (fun e => h e.symm)]
theorem may_deadline {t : Task} {s : Turns} (h : pairMay t s = true) : 1 ≤ t.deadline ∧ t.deadline ≤ t.period ∧ (t.kind = 0 ∨ t.kind = 1) := by
  have h1 := (pairMay_task h).1
  unfold taskMay at h1
  simp only [decide_eq_true_eq] at h1
  exact ⟨h1.2.2.2.1, h1.2.2.2.2.1, h1.1⟩
/-- Where a job comes, the task's last one is over. -/
theorem comes_over {t : Task} {s : Turns} {now : Int} (hm : pairMay t s = true) (hl : s.last < now) (hk : t.kind = 0 → s.last = -1 ∨ s.last % t.period = 0) (hr : relIs t s now = true) : s.last = -1 ∨ s.last + t.period ≤ now := by
  obtain ⟨h1, h2, h3⟩ := may_deadline hm
  unfold relIs comesB soonB at hr
  simp only [Bool.and_eq_true] at hr
  have hc := hr.2
  by_cases h0 : t.kind = 0
  · rw [if_pos h0] at hc
    simp only [decide_eq_true_eq] at hc
    rcases hk h0 with h | h
    · exact .inl h
    · right
      have hd : t.period ∣ (now - s.last) := Int.dvd_sub (Int.dvd_of_emod_eq_zero hc) (Int.dvd_of_emod_eq_zero h)
      have := Int.le_of_dvd (by omega) hd
      omega
  · rw [if_neg h0] at hc
    simp only [Bool.and_eq_true, Bool.or_eq_true, decide_eq_true_eq] at hc
    exact hc.2
theorem jobMay_release {j : Job} (h : jobMay j = true) : 0 ≤ j.release ∧ 0 ≤ j.task := by
  unfold jobMay at h
  simp only [decide_eq_true_eq] at h
  exact ⟨h.2.2.2.2.2.1, h.1⟩
theorem relS_inv {S : LSt} {m : Int} (hw : LWf S m) {now : Int} (hc : clockB now = true) {k : Nat} (hk : k < S.rs.length) (h : MInv S now k) :
    MInv (relS S k now) now (k + 1) ∧ (relS S k now).js.length = S.js.length + (relEv S k now).length ∧ ∀ e ∈ relEv S k now, e.kind = 1 := by
  have hnow : 0 ≤ now := by unfold clockB at hc; simp only [decide_eq_true_eq] at hc; omega
  have hr := hw.rs _ (LSt.run_mem hk)
  have hl := h.last k hk
  have hmj := (jobsMay_pw S.js).1 hw.js
  by_cases hrel : relIs (S.run k).t (S.run k).s now = true
  · have hov := comes_over hr.1 (hl.2.1 (Nat.le_refl _)) hl.2.2 hrel
    obtain ⟨d1, d2, d3⟩ := may_deadline hr.1
    have hno : ∀ j ∈ S.js, j.task.toNat ≠ k := by
      intro j hj e
      obtain ⟨⟨q1, q2, -⟩, q3, -⟩ := h.job j hj
      rw [e] at q1 q2
      have := (jobMay_release (hmj.1 j hj)).1
      omega
    have hlast : ∀ (r : TRun), r.t = (S.run k).t → r.s.last = now → ∀ i, i < S.rs.length → ((S.setR k r).run i).s.last ≤ now ∧ (k + 1 ≤ i → ((S.setR k r).run i).s.last < now) ∧ (((S.setR k r).run i).t.kind = 0 → ((S.setR k r).run i).s.last = -1 ∨ ((S.setR k r).run i).s.last % ((S.setR k r).run i).t.period = 0) := by
      intro r e1 e2 i hi
      rw [run_set hk]
      by_cases hik : i = k
      · rw [if_pos hik, e1, e2]
        refine ⟨Int.le_refl _, fun q => by omega, fun h0 => ?_⟩
        right
        unfold relIs comesB at hrel
        simp only [Bool.and_eq_true] at hrel
        have hc := hrel.2
        rw [if_pos h0] at hc
        simpa using hc
      · rw [if_neg hik]
        have := h.last i hi
        exact ⟨this.1, fun q => this.2.1 (by omega), this.2.2⟩
    have hjob : ∀ (r : TRun), r.t = (S.run k).t → r.s.last = now → ∀ j ∈ S.js, jobOf (S.setR k r) j ∧ now < j.deadline ∧ j.release ≤ now := by
      intro r e1 e2 j hj
      obtain ⟨q1, q2⟩ := h.job j hj
      refine ⟨?_, q2⟩
      unfold jobOf at q1 ⊢
      rw [run_set hk, if_neg (hno j hj)]
      exact q1
    unfold relS relEv
    rw [if_pos hrel]
    by_cases hp : putE S.js (relJ (S.run k) k now) = 0
    · rw [if_pos hp, if_pos ⟨hrel, hp⟩]
      have hl1 := hlast { (S.run k).went now with seq := (S.run k).seq + 1 } rfl rfl
      have hj1 := hjob { (S.run k).went now with seq := (S.run k).seq + 1 } rfl rfl
      refine ⟨⟨fun i hi => hl1 i (by simpa [LSt.setR] using hi), fun j hj => ?_, ?_⟩, ?_, ?_⟩
      · rcases putL_mem.1 hj with hj | rfl
        · exact hj1 j hj
        · refine ⟨?_, ?_, ?_⟩
          · unfold jobOf
            have e : (relJ (S.run k) k now).task.toNat = k := by unfold relJ; simp
            rw [e]
            show (relJ (S.run k) k now).release = ((S.setR k _).run k).s.last ∧ _ = ((S.setR k _).run k).s.last + ((S.setR k _).run k).t.deadline ∧ _ = ((S.setR k _).run k).t.prio
            rw [run_set hk, if_pos rfl]
            exact ⟨rfl, rfl, rfl⟩
          · show now < now + (S.run k).t.deadline
            omega
          · exact Int.le_refl _
      · show ((putL S.js (relJ (S.run k) k now)).map (·.task)).Nodup
        have hnd := h.nd
        unfold putL
        rw [List.map_append, List.map_append]
        have hsplit : S.js.map (·.task) = (S.js.take (pos S.js (relJ (S.run k) k now))).map (·.task) ++ (S.js.drop (pos S.js (relJ (S.run k) k now))).map (·.task) := by rw [← List.map_append, List.take_append_drop]
        rw [hsplit] at hnd
        obtain ⟨n1, n2, n3⟩ := List.nodup_append.1 hnd
        have hnk : ∀ j ∈ S.js, j.task ≠ (k : Int) := fun j hj e => hno j hj (by rw [e]; simp)
        refine List.nodup_append.2 ⟨List.nodup_append.2 ⟨n1, by simp, ?_⟩, n2, ?_⟩
        · intro a ha b hb
          obtain ⟨j, hj, rfl⟩ := List.mem_map.1 ha
          simp only [List.map_cons, List.map_nil, List.mem_singleton] at hb
          rw [hb]
          exact hnk j (List.mem_of_mem_take hj)
        · intro a ha b hb
          obtain ⟨j, hj, rfl⟩ := List.mem_map.1 hb
          rcases List.mem_append.1 ha with ha | ha
          · exact n3 a ha _ (List.mem_map_of_mem hj)
          · simp only [List.map_cons, List.map_nil, List.mem_singleton] at ha
            rw [ha]
            exact fun e => hnk j (List.mem_of_mem_drop hj) e.symm
      · show (putL S.js (relJ (S.run k) k now)).length = _
        rw [putL_len]
        simp
      · intro e he
        simp only [List.mem_singleton] at he
        rw [he]
        rfl
    · rw [if_neg hp, if_neg (fun q => hp q.2)]
      refine ⟨⟨fun i hi => hlast ((S.run k).went now) rfl rfl i (by simpa [LSt.setR] using hi), hjob ((S.run k).went now) rfl rfl, h.nd⟩, by simp [LSt.setR], fun e he => by cases he⟩
  · unfold relS relEv
    rw [if_neg hrel, if_neg (fun q => hrel q.1)]
    refine ⟨⟨fun i hi => ⟨(h.last i hi).1, fun q => (h.last i hi).2.1 (by omega), (h.last i hi).2.2⟩, h.job, h.nd⟩, by simp, fun e he => by cases he⟩
theorem relN_inv {S : LSt} {m : Int} (hw : LWf S m) {now : Int} (hc : clockB now = true) (h : MInv S now 0) : ∀ k, k ≤ S.rs.length → MInv (relN S now k).1 now k ∧ (relN S now k).1.js.length = S.js.length + (relN S now k).2.length ∧ ∀ e ∈ (relN S now k).2, e.kind = 1
  | 0, _ => ⟨h, by simp [relN], fun e he => by cases he⟩
  | k + 1, hk => by
    obtain ⟨h1, h2, h3⟩ := relN_inv hw hc h k (by omega)
    obtain ⟨q1, q2, q3⟩ := relS_inv (relN_wf hw hc k (by omega)) hc (k := k) (by rw [(relN_len S now k).1]; omega) h1
    refine ⟨q1, ?_, ?_⟩
    · simp only [relN, List.length_append]
      rw [q2, h2]
      omega
    · intro e he
      simp only [relN, List.mem_append] at he
      rcases he with he | he
      · exact h3 e he
      · exact q3 e he
/-- A tick's begin: the jobs that are left, those that have come, those that were missed. -/
theorem begin_inv {S : LSt} {m : Int} (hw : LWf S m) {now : Int} (hc : clockB now = true) (h : LInv S now) :
    LInv (begS S now) (now + 1) ∧ (∀ j ∈ (begS S now).js, now < j.deadline ∧ j.release ≤ now) ∧
    ∃ a b, begE S now = a ++ b ∧ (∀ e ∈ a, e.kind = 3) ∧ (∀ e ∈ b, e.kind = 1) ∧ (begS S now).js.length + a.length = S.js.length + b.length ∧ a.length ≤ 16 ∧ b.length ≤ 6 := by
  have hm := hw.js
  have hll : leftJ S.js now = S.js.filter (leftP now) := by unfold leftJ; rw [if_pos hm]
  have hla : lateJ S.js now = S.js.filter (lateP now) := by unfold lateJ; rw [if_pos hm]
  have h0 : MInv { S with js := leftJ S.js now } now 0 := by
    refine ⟨fun i hi => ?_, fun j hj => ?_, ?_⟩
    · have := h.last _ (LSt.run_mem (S := S) hi)
      exact ⟨Int.le_of_lt this.1, fun _ => this.1, this.2⟩
    · rw [hll] at hj
      obtain ⟨hj, hp⟩ := List.mem_filter.1 hj
      unfold leftP at hp
      simp only [Bool.not_eq_true', decide_eq_false_iff_not, Int.not_le] at hp
      have q := h.job j hj
      refine ⟨q, hp, ?_⟩
      rw [q.1]
      have hlt := hw.jt j hj
      have := h.last _ (LSt.run_mem (S := S) (i := j.task.toNat) (by omega))
      exact Int.le_of_lt this.1
    · rw [hll]
      exact h.nd.sublist (List.filter_sublist.map _)
  obtain ⟨q1, q2, q3⟩ := relN_inv (left_wf hw now) hc h0 S.rs.length (Nat.le_refl _)
  refine ⟨⟨fun r hr => ?_, fun j hj => (q1.job j hj).1, q1.nd⟩, fun j hj => (q1.job j hj).2, missEv S now, _, rfl, ?_, q3, ?_⟩
  · obtain ⟨i, hi, rfl⟩ := List.getElem_of_mem hr
    have e := LSt.run_at (S := begS S now) hi
    rw [← e]
    have q := q1.last i hi
    exact ⟨Int.lt_add_one_of_le q.1, q.2.2⟩
  · intro e he
    unfold missEv at he
    obtain ⟨j, -, rfl⟩ := List.mem_map.1 he
    rfl
  · have hl := left_late S.js now
    have e2 : (begS S now).js.length = (leftJ S.js now).length + (relN { S with js := leftJ S.js now } now S.rs.length).2.length := q2
    have e3 : (missEv S now).length = (S.js.filter (lateP now)).length := by unfold missEv; rw [List.length_map, hla]
    have h2 := ((jobsMay_iff _).1 hm).2
    have h3 := (relN_len { S with js := leftJ S.js now } now S.rs.length).2.2.2
    have h4 := hw.len
    have e4 : (leftJ S.js now).length = (S.js.filter (leftP now)).length := by rw [hll]
    rw [e2, e3]
    refine ⟨by omega, by omega, by omega⟩
theorem LInv.mono {S : LSt} {a b : Int} (h : LInv S a) (hab : a ≤ b) : LInv S b := ⟨fun r hr => ⟨by have := (h.last r hr).1; omega, (h.last r hr).2⟩, h.job, h.nd⟩
theorem new_inv (i : Int) (p : Part) {now : Int} (hn : 0 ≤ now) : LInv (newL i p) now := by
  refine ⟨fun r hr => ?_, fun j hj => (by cases hj), List.nodup_nil⟩
  unfold newL at hr
  obtain ⟨t, -, rfl⟩ := List.mem_map.1 hr
  exact ⟨by show (-1 : Int) < now; omega, fun _ => .inl rfl⟩
theorem pick_inv {S : LSt} {now : Int} (h : LInv S now) (i d t : Int) : LInv (pickSt S i d t) now := by
  unfold pickSt
  split
  · rename_i he
    have hi : i.toNat < S.rs.length := by
      unfold pickErr at he
      split at he
      · cases he
      · rename_i hq
        simp only [not_or, Int.not_lt, Int.not_le] at hq
        omega
    refine ⟨fun r hr => ?_, fun j hj => ?_, h.nd⟩
    · rcases List.mem_or_eq_of_mem_set hr with hr | rfl
      · exact h.last r hr
      · have q := h.last (S.run i.toNat) (LSt.run_mem hi)
        exact q
    · have q := h.job j hj
      unfold jobOf at q ⊢
      rw [run_set hi]
      split
      · rename_i e
        rw [e] at q
        exact q
      · exact q
  · exact h
theorem sub_inv {S : LSt} {now : Int} (h : LInv S now) {js : List Job} (hs : js.Sublist S.js) : LInv { S with js := js } now :=
  ⟨h.last, fun j hj => h.job j (hs.subset hj), h.nd.sublist (hs.map _)⟩
theorem run_inv {S : LSt} {now : Int} (h : LInv S now) : LInv (runS S) now := by
  unfold runS
  cases hjs : S.js with
  | nil => simpa [hjs] using h
  | cons j rest =>
    have hh : S.hd = j := by unfold LSt.hd; rw [hjs]; rfl
    simp only [List.isEmpty_cons, Bool.false_eq_true, if_false, List.tail_cons, hh]
    split
    · exact sub_inv h (by rw [hjs]; exact List.sublist_cons_self _ _)
    · refine ⟨h.last, fun x hx => ?_, ?_⟩
      · rcases List.mem_cons.1 hx with rfl | hx
        · exact h.job j (by rw [hjs]; simp)
        · exact h.job x (by rw [hjs]; exact List.mem_cons_of_mem _ hx)
      · have := h.nd
        rw [hjs] at this
        exact this
theorem fail_inv {S : LSt} {now : Int} (h : LInv S now) : LInv (failS S) now := sub_inv h (List.tail_sublist _)
/-- A run: the jobs are as many, or one less where it is done or killed; their releases and deadlines stay. -/
theorem run_len {S : LSt} (h : 0 < S.js.length) : (runS S).js.length = if ((runV S).done || (runV S).kill) = true then S.js.length - 1 else S.js.length := by
  unfold runS
  cases hjs : S.js with
  | nil => rw [hjs] at h; simp at h
  | cons j rest =>
    simp only [List.isEmpty_cons, Bool.false_eq_true, if_false, List.tail_cons]
    split <;> simp
theorem run_job {S : LSt} {P : Int → Int → Prop} (h : ∀ j ∈ S.js, P j.release j.deadline) : ∀ j ∈ (runS S).js, P j.release j.deadline := by
  unfold runS
  cases hjs : S.js with
  | nil => simp [hjs]
  | cons j rest =>
    have hh : S.hd = j := by unfold LSt.hd; rw [hjs]; rfl
    rw [hjs] at h
    simp only [List.isEmpty_cons, Bool.false_eq_true, if_false, List.tail_cons, hh]
    split
    · exact fun x hx => h x (List.mem_cons_of_mem _ hx)
    · intro x hx
      rcases List.mem_cons.1 hx with rfl | hx
      · exact h j (by simp)
      · exact h x (List.mem_cons_of_mem _ hx)
end Go.Proofs.Ytbkhnlacabaagaa
