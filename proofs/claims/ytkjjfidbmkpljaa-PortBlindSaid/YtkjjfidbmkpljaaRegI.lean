/- A region that draws its order, shown by an invariant over what has run as yet; guards are borne. -/
import Derived.Test.YtkjjfidbmkpljaaEach
set_option linter.unusedVariables false
set_option linter.unusedSimpArgs false
namespace Go.Proofs.Ytkjjfidbmkpljaa
open Go.RowKit

def updB (L : Nat → Bool) (i : Nat) : Nat → Bool := fun j => if j = i then true else L j
section
variable {P : Program} {Q : Exit → Act → World → Prop}
/-- What each operation owes: whenever it may run (what binds it has run), the invariant holds behind it. -/
def InvE (P : Program) (Q : Exit → Act → World → Prop) (ops : List Oper) (Inv : (Nat → Bool) → (Nat → Value) → World → Prop) (mk : (Nat → Value) → Act) : List Oper → Nat → Prop
  | [], _ => True
  | o :: r, i => (∀ L vs W, Inv L vs W → L i = false → (∀ j, needs o j = true → L j = true) → (∀ j q, ops[j]? = some q → L j = true → ∀ k, needs q k = true → L k = true) → ∀ K : Act → World → Prop, (∀ v W', Inv (updB L i) (upd vs i v) W' → K ((mk vs).put o.dst v) W') → if Region.wanted o (yielded ops.toArray (mk vs).tmps) = true then Oper.wp P o (mk vs) W K Q else K ((mk vs).put o.dst undef) W) ∧ InvE P Q ops Inv mk r (i + 1)
theorem InvE.get {ops : List Oper} {Inv : (Nat → Bool) → (Nat → Value) → World → Prop} {mk : (Nat → Value) → Act} {l : List Oper} : ∀ {k : Nat}, InvE P Q ops Inv mk l k → ∀ i o, l[i]? = some o →
    ∀ L vs W, Inv L vs W → L (k + i) = false → (∀ j, needs o j = true → L j = true) → (∀ j q, ops[j]? = some q → L j = true → ∀ k, needs q k = true → L k = true) → ∀ K : Act → World → Prop, (∀ v W', Inv (updB L (k + i)) (upd vs (k + i) v) W' → K ((mk vs).put o.dst v) W') → if Region.wanted o (yielded ops.toArray (mk vs).tmps) = true then Oper.wp P o (mk vs) W K Q else K ((mk vs).put o.dst undef) W := by
  induction l with
  | nil => intro k _ i o h; simp at h
  | cons e l ih =>
    intro k hE i o h
    cases i with
    | zero =>
      simp only [List.getElem?_cons_zero, Option.some.injEq] at h
      subst h
      exact hE.1
    | succ i =>
      have := ih hE.2 i o (by simpa using h)
      rw [Nat.add_assoc, Nat.add_comm 1 i] at this
      exact this
/-- The shape of a region that may be shown so: its order reaches back, no two name one slot. -/
def invShape (l : List Oper) : Bool :=
  apart1 (l.map (·.dst)) && (List.range l.length).all (fun i => match l[i]? with | some o => o.after.all fun e => !Region.binds .any e || decide (e.on < i) | none => true)
def ranB (listed : Array Bool) : Nat → Bool := fun i => decide (listed[i]? = some true)
theorem region_inv {ops : List Oper} {id : Nat} {a : Act} {w : World} (hm : P.follows .mixedOrders = true) (hsh : invShape ops = true)
    (Inv : (Nat → Bool) → (Nat → Value) → World → Prop) (h0 : ∀ vs, Inv (fun _ => false) vs w.drew)
    (hE : InvE P Q ops Inv (fun vs => putAll (ops.map (·.dst)) 0 vs a) ops 0)
    (hend : ∀ vs W, Inv (fun i => decide (i < ops.length)) vs W → Q .normal (putAll (ops.map (·.dst)) 0 vs a) W) :
    (Code.region id ops.toArray true).wp P Q a w := by
  simp only [invShape, Bool.and_eq_true, List.all_eq_true, List.mem_range] at hsh
  obtain ⟨hap, hback⟩ := hsh
  obtain ⟨arr, harr⟩ : ∃ arr, arr = ops.toArray := ⟨_, rfl⟩
  have hsz : arr.size = ops.length := by rw [harr]; simp
  have hat : ∀ i : Nat, arr[i]? = ops[i]? := by intro i; rw [harr]; simp
  have harr' : ops.toArray = arr := harr.symm
  rw [harr']
  refine wp_region_any hm ?_
  let J : Array Bool → Act → World → Prop := fun listed a' W => listed.size = ops.length ∧ (∀ (j : Nat) (o : Oper), ops[j]? = some o → ranB listed j = true → ∀ k : Nat, needs o k = true → ranB listed k = true) ∧
    ∃ vs, a' = putAll (ops.map (·.dst)) 0 vs a ∧ Inv (ranB listed) vs W
  have hstep : ∀ listed a' W i, J listed a' W → i ∈ Region.ready .any arr listed → listed[i]? = some false ∧ wpOp P arr Q i (J (listed.setIfInBounds i true)) a' W := by
    intro listed a' W i hI hi
    simp only [Region.ready, List.mem_filter, List.mem_range, Bool.and_eq_true, Bool.not_eq_true'] at hi
    obtain ⟨hi1, hi2, hi3⟩ := hi
    obtain ⟨hs, hcl, vs, rfl, hI⟩ := hI
    have hli : listed[i]? = some false := by
      have hlt : i < listed.size := by omega
      rw [Array.getElem?_eq_getElem hlt]
      simp only [Array.getD, hlt, dite_true] at hi2
      rw [← hi2]
      rfl
    refine ⟨hli, ?_⟩
    obtain ⟨o, ho⟩ : ∃ o, arr[i]? = some o := ⟨arr[i], Array.getElem?_eq_getElem hi1⟩
    rw [ho] at hi3
    simp only [Option.map_some, Option.getD_some, Array.all_eq_true', Bool.or_eq_true, Bool.not_eq_true'] at hi3
    have ho' := ho
    rw [hat] at ho'
    have hneeds : ∀ j, needs o j = true → ranB listed j = true := by
      intro j hj
      simp only [needs, List.any_eq_true, Array.mem_toList_iff, Bool.and_eq_true, beq_iff_eq] at hj
      obtain ⟨e, he, hb, rfl⟩ := hj
      unfold ranB
      rw [decide_eq_true_iff]
      rcases hi3 e he with h | h
      · rw [hb] at h; simp at h
      · unfold Array.getD at h
        split at h
        · rename_i hlt
          rw [Array.getElem?_eq_getElem hlt]
          exact congrArg some h
        · simp at h
    have hran : ranB (listed.setIfInBounds i true) = updB (ranB listed) i := by
      funext j
      unfold ranB updB
      by_cases e : j = i
      · subst e
        rw [if_pos rfl, Array.getElem?_setIfInBounds, if_pos rfl, if_pos (by omega)]
        simp
      · rw [if_neg e, Array.getElem?_setIfInBounds_ne (fun h => e h.symm)]
    have hclo : ∀ (j : Nat) (q : Oper), ops[j]? = some q → ranB (listed.setIfInBounds i true) j = true → ∀ k : Nat, needs q k = true → ranB (listed.setIfInBounds i true) k = true := by
      intro j q hq hj k hk
      rw [hran] at hj ⊢
      unfold updB at hj ⊢
      by_cases e : k = i
      · rw [if_pos e]
      · rw [if_neg e]
        by_cases e2 : j = i
        · subst e2
          rw [hq] at ho'
          injection ho' with ho'
          subst ho'
          exact hneeds k hk
        · rw [if_neg e2] at hj
          exact hcl j q hq hj k hk
    have hone := hE.get i o ho' (ranB listed) vs W hI (by rw [Nat.zero_add]; unfold ranB; rw [hli]; simp) hneeds hcl (J (listed.setIfInBounds i true)) (fun v W' hI' => by
      rw [Nat.zero_add] at hI'
      refine ⟨by simpa using hs, hclo, upd vs i v, ?_, by rw [hran]; exact hI'⟩
      have := put_mid (ops.map (·.dst)) 0 i vs a o.dst v hap (by simp [ho'])
      rw [Nat.zero_add] at this
      exact this)
    rw [harr'] at hone
    unfold wpOp
    rw [ho]
    simp only
    split at hone
    · rename_i hw
      rw [if_pos hw]
      exact .inl hone
    · rename_i hw
      rw [if_neg hw]
      exact hone
  have hdone : ∀ listed a' W, J listed a' W → Region.ready .any arr listed = [] → Q .normal a' W := by
    intro listed a' W hI hr
    obtain ⟨hs, -, vs, rfl, hI⟩ := hI
    have key : ∀ i, i < ops.length → listed[i]? = some true := by
      intro i
      induction i using Nat.strongRecOn with
      | ind i ih =>
        intro hi
        have hlt : i < listed.size := by omega
        rw [Array.getElem?_eq_getElem hlt]
        cases hb : listed[i] with
        | true => rfl
        | false =>
          exfalso
          have : i ∈ Region.ready .any arr listed := by
            simp only [Region.ready, List.mem_filter, List.mem_range, Bool.and_eq_true, Bool.not_eq_true']
            have hio : i < arr.size := by omega
            refine ⟨hio, by simp [Array.getD, hlt, hb], ?_⟩
            rw [Array.getElem?_eq_getElem hio]
            simp only [Option.map_some, Option.getD_some, Array.all_eq_true', Bool.or_eq_true, Bool.not_eq_true']
            intro e he
            by_cases hbd : Region.binds .any e = true
            rotate_left
            · exact .inl (by simpa using hbd)
            right
            have hb1 := hback i hi
            rw [← hat, Array.getElem?_eq_getElem hio] at hb1
            simp only [Array.all_eq_true', decide_eq_true_eq, Bool.or_eq_true, Bool.not_eq_true'] at hb1
            have h1 := (hb1 e he).resolve_left (by rw [hbd]; decide)
            have h2 := ih e.on h1 (by omega)
            have h3 : e.on < listed.size := by omega
            rw [Array.getElem?_eq_getElem h3] at h2
            simp only [Array.getD, h3, dite_true]
            injection h2
          rw [hr] at this
          simp at this
    refine hend vs W ?_
    have : ranB listed = fun i => decide (i < ops.length) := by
      funext i
      unfold ranB
      rw [decide_eq_decide]
      constructor
      · intro h
        have := (Array.getElem?_eq_some_iff.1 h).1
        omega
      · exact key i
    rw [← this]
    exact hI
  have main : ∀ fuel listed a' W, listed.toList.countP (· == false) ≤ fuel → J listed a' W → wpAny P .any arr Q fuel listed a' W := by
    intro fuel
    induction fuel with
    | zero =>
      intro listed a' W hc hI
      have hr : Region.ready .any arr listed = [] := by
        rw [List.eq_nil_iff_forall_not_mem]
        intro i hi
        have := (hstep listed a' W i hI hi).1
        have hp : 0 < listed.toList.countP (· == false) := List.countP_pos_iff.2 ⟨false, List.mem_of_getElem? (i := i) (by simpa using this), rfl⟩
        omega
      exact ⟨hr, hdone _ _ _ hI hr⟩
    | succ fuel ih =>
      intro listed a' W hc hI
      refine ⟨fun hr => hdone _ _ _ hI hr, fun i hi => ?_⟩
      obtain ⟨h1, h2⟩ := hstep listed a' W i hI hi
      refine wpOp_mono (fun a2 W2 h => ih _ _ _ ?_ h) h2
      have hlt : i < listed.toList.length := by
        rcases Nat.lt_or_ge i listed.toList.length with h | h
        · exact h
        · exfalso
          have : listed.size ≤ i := by simpa using h
          rw [Array.getElem?_eq_none this] at h1
          simp at h1
      have hli : listed.toList[i] = false := by
        have : listed.toList[i]? = some false := by simpa using h1
        rw [List.getElem?_eq_getElem hlt] at this
        injection this
      rw [Array.toList_setIfInBounds, List.countP_set hlt, hli]
      show listed.toList.countP (· == false) - 1 + 0 ≤ fuel
      omega
  refine main _ _ _ _ ?_ ?_
  · have := List.countP_le_length (p := (· == false)) (l := (Array.replicate arr.size false).toList)
    simpa using this
  · have hz : ranB (Array.replicate arr.size false) = fun _ => false := by
      funext i
      unfold ranB
      rw [Array.getElem?_replicate]
      split <;> simp
    refine ⟨by simp [hsz], fun j o _ hj => by (rw [hz] at hj; cases hj), fun i => match (ops.map (·.dst))[i]? with | some (some d) => a.tmps.getD d undef | _ => undef, ?_, ?_⟩
    · rw [putAll_same]
      intro j d hj
      simp only [Nat.zero_add, hj]
    · rw [hz]
      exact h0 _
/-- What each operation owes where none of them writes to what was there: V tells what each yields, and no later one breaks it. -/
def VE (P : Program) (Q : Exit → Act → World → Prop) (w : World) (ops : List Oper) (V : Nat → Value → World → Prop) (mk : (Nat → Value) → Act) : List Oper → Nat → Prop
  | [], _ => True
  | o :: r, i => (∀ vs W, Below w.heap.size w W → (∀ j, needs o j = true → V j (vs j) W) → ∀ K : Act → World → Prop, (∀ v W', Below W.heap.size W W' → V i v W' → K ((mk vs).put o.dst v) W') → if Region.wanted o (yielded ops.toArray (mk vs).tmps) = true then Oper.wp P o (mk vs) W K Q else K ((mk vs).put o.dst undef) W) ∧ VE P Q w ops V mk r (i + 1)
theorem VE.inv {w : World} {ops : List Oper} {V : Nat → Value → World → Prop} {mk : (Nat → Value) → Act} (hV : ∀ i v W W', Below W.heap.size W W' → V i v W → V i v W') : ∀ (l : List Oper) (k : Nat), VE P Q w ops V mk l k → InvE P Q ops (fun L vs W => Below w.heap.size w W ∧ ∀ i, L i = true → V i (vs i) W) mk l k
  | [], _, _ => trivial
  | o :: r, k, h => by
    refine ⟨fun L vs W hI hi hn hcl K hK => ?_, VE.inv hV r (k + 1) h.2⟩
    refine h.1 vs W hI.1 (fun j hj => hI.2 j (hn j hj)) K (fun v W' hb hv => hK v W' ⟨bthen hI.1 hb, fun j hj => ?_⟩)
    unfold updB at hj
    unfold upd
    by_cases e : j = k
    · subst e
      rw [if_pos rfl]
      exact hv
    · rw [if_neg e] at hj ⊢
      exact hV _ _ _ _ hb (hI.2 j hj)
theorem region_v {ops : List Oper} {id : Nat} {a : Act} {w : World} (hm : P.follows .mixedOrders = true) (hsh : invShape ops = true)
    (V : Nat → Value → World → Prop) (hV : ∀ i v W W', Below W.heap.size W W' → V i v W → V i v W')
    (hE : VE P Q w ops V (fun vs => putAll (ops.map (·.dst)) 0 vs a) ops 0)
    (hend : ∀ vs W, Below w.heap.size w W → (∀ i, i < ops.length → V i (vs i) W) → Q .normal (putAll (ops.map (·.dst)) 0 vs a) W) :
    (Code.region id ops.toArray true).wp P Q a w := by
  refine region_inv hm hsh (fun L vs W => Below w.heap.size w W ∧ ∀ i, L i = true → V i (vs i) W) (fun vs => ⟨below_drew (Below.refl _ _), fun i h => by cases h⟩) (VE.inv hV _ _ hE) (fun vs W hI => ?_)
  exact hend vs W hI.1 (fun i hi => hI.2 i (by simpa using hi))
end
end Go.Proofs.Ytkjjfidbmkpljaa
