/- A region that draws its order, shown operation by operation: what each yields is told by itself, and no later one breaks it. -/
import Derived.Test.YtkjjfidbmkpljaaBase
import Derived.RegionTactic
set_option linter.unusedVariables false
set_option linter.unusedSimpArgs false
namespace Go.Proofs.Ytkjjfidbmkpljaa
open Go.RowKit

def putAll : List (Option Tmp) → Nat → (Nat → Value) → Act → Act
  | [], _, _, a => a
  | d :: r, i, vs, a => putAll r (i + 1) vs (a.put d (vs i))
def upd (vs : Nat → Value) (i : Nat) (v : Value) : Nat → Value := fun j => if j = i then v else vs j
theorem put_twice (a : Act) (d : Option Tmp) (u v : Value) : (a.put d u).put d v = a.put d v := by
  cases d with
  | none => rfl
  | some d => simp [Act.put]
theorem put_swap (a : Act) (d e : Tmp) (u v : Value) (h : d ≠ e) : (a.put (some d) u).put (some e) v = (a.put (some e) v).put (some d) u := by
  simp only [Act.put, Act.mk.injEq, and_true]
  exact Array.setIfInBounds_comm _ _ h
theorem put_past (r : List (Option Tmp)) : ∀ (i : Nat) (vs : Nat → Value) (a : Act) (d : Tmp) (v : Value), some d ∉ r → (putAll r i vs a).put (some d) v = putAll r i vs (a.put (some d) v) := by
  induction r with
  | nil => intros; rfl
  | cons e r ih =>
    intro i vs a d v h
    simp only [List.mem_cons, not_or] at h
    unfold putAll
    rw [ih _ _ _ _ _ h.2]
    cases e with
    | none => rfl
    | some e => rw [put_swap _ _ _ _ _ (fun q => h.1 (by rw [q]))]
theorem putAll_congr (r : List (Option Tmp)) : ∀ (i : Nat) (vs us : Nat → Value) (a : Act), (∀ j, i ≤ j → vs j = us j) → putAll r i vs a = putAll r i us a := by
  induction r with
  | nil => intros; rfl
  | cons e r ih =>
    intro i vs us a h
    unfold putAll
    rw [h i (Nat.le_refl _)]
    exact ih _ _ _ _ (fun j hj => h j (by omega))
/-- No two name one slot. -/
def apart1 : List (Option Tmp) → Bool
  | [] => true
  | none :: r => apart1 r
  | some d :: r => !r.contains (some d) && apart1 r
theorem put_mid (r : List (Option Tmp)) : ∀ (k i : Nat) (vs : Nat → Value) (a : Act) (d : Option Tmp) (v : Value), apart1 r = true → r[i]? = some d → (putAll r k vs a).put d v = putAll r k (upd vs (k + i) v) a := by
  induction r with
  | nil => intro k i vs a d v _ h; simp at h
  | cons e r ih =>
    intro k i vs a d v ha h
    cases i with
    | zero =>
      simp only [List.getElem?_cons_zero, Option.some.injEq] at h
      subst h
      unfold putAll
      have hu : upd vs k v k = v := by simp [upd]
      show (putAll r (k + 1) vs (a.put e (vs k))).put e v = putAll r (k + 1) (upd vs k v) (a.put e (upd vs k v k))
      rw [hu, putAll_congr r (k + 1) (upd vs k v) vs _ (fun j hj => by unfold upd; rw [if_neg (by omega)])]
      cases e with
      | none => rfl
      | some e =>
        simp only [apart1, Bool.and_eq_true, Bool.not_eq_true'] at ha
        rw [put_past _ _ _ _ _ _ (by simpa using ha.1), put_twice]
    | succ i =>
      simp only [List.getElem?_cons_succ] at h
      unfold putAll
      have hu : upd vs (k + (i + 1)) v k = vs k := by unfold upd; rw [if_neg (by omega)]
      have ha' : apart1 r = true := by
        cases e with
        | none => exact ha
        | some e => simp only [apart1, Bool.and_eq_true] at ha; exact ha.2
      rw [hu, ih (k + 1) i vs _ d v ha' h]
      congr 2
      omega
theorem putAll_same (r : List (Option Tmp)) : ∀ (i : Nat) (vs : Nat → Value) (a : Act), (∀ j d, r[j]? = some (some d) → vs (i + j) = a.tmps.getD d undef) → putAll r i vs a = a := by
  induction r with
  | nil => intros; rfl
  | cons e r ih =>
    intro i vs a h
    unfold putAll
    have h0 : a.put e (vs i) = a := by
      cases e with
      | none => rfl
      | some d =>
        have := h 0 d rfl
        rw [Nat.add_zero] at this
        rw [this]
        unfold Act.put
        simp only
        congr 1
        apply Array.ext (by simp)
        intro j h1 h2
        rw [Array.getElem_setIfInBounds]
        split
        · subst_vars
          simp [Array.getD, h2]
        · rfl
    rw [h0]
    exact ih _ _ _ (fun j d hj => by
      have := h (j + 1) d (by simpa using hj)
      rw [← this]
      congr 1
      omega)
/-- Must j have come ahead of o? -/
def needs (o : Oper) (j : Nat) : Bool := o.after.toList.any fun e => Region.binds .any e && e.on == j
section
variable {P : Program} {Q : Exit → Act → World → Prop}
/-- Each operation yields what V tells of it, whatever the others yield; U: who uses it up. -/
def Each (P : Program) (Q : Exit → Act → World → Prop) (L : List Oper) (U : Nat → Option Nat) (V : Nat → Value → World → Prop) (iu : Nat) (G : Bool → World → Prop) (mk : (Nat → Value) → Act) : List Oper → Nat → Prop
  | [], _ => True
  | o :: r, i => (∀ vs W b, (i = iu → b = true) → (∀ q, L[iu]? = some q → needs q i = true → b = true) → G b W → (∀ j, needs o j = true → (U j = none ∨ U j = some i) → V j (vs j) W) → ∀ K' : Act → World → Prop, (∀ v W', G (if i = iu then false else b) W' → (∀ j u, j ≠ i → U j ≠ some i → (∀ q, L[j]? = some q → needs q i = false) → V j u W → V j u W') → V i v W' → K' ((mk vs).put o.dst v) W') → Oper.wp P o (mk vs) W K' Q) ∧ Each P Q L U V iu G mk r (i + 1)
theorem Each.get {L : List Oper} {U : Nat → Option Nat} {V : Nat → Value → World → Prop} {iu : Nat} {G : Bool → World → Prop} {mk : (Nat → Value) → Act} {l : List Oper} : ∀ {k : Nat}, Each P Q L U V iu G mk l k → ∀ i o, l[i]? = some o →
    ∀ vs W b, (k + i = iu → b = true) → (∀ q, L[iu]? = some q → needs q (k + i) = true → b = true) → G b W → (∀ j, needs o j = true → (U j = none ∨ U j = some (k + i)) → V j (vs j) W) → ∀ K' : Act → World → Prop, (∀ v W', G (if k + i = iu then false else b) W' → (∀ j u, j ≠ k + i → U j ≠ some (k + i) → (∀ q, L[j]? = some q → needs q (k + i) = false) → V j u W → V j u W') → V (k + i) v W' → K' ((mk vs).put o.dst v) W') → Oper.wp P o (mk vs) W K' Q := by
  induction l with
  | nil => intro k _ i o h; simp at h
  | cons e l ih =>
    intro k hE i o h
    cases i with
    | zero =>
      simp only [List.getElem?_cons_zero, Option.some.injEq] at h
      subst h
      exact hE.1
    | succ i =>
      have := ih hE.2 i o (by simpa using h)
      rw [Nat.add_assoc, Nat.add_comm 1 i] at this
      exact this
/-- The shape of a region that may be shown so: no guards, its order reaches back, its last operation comes last. -/
def eachShape (l : List Oper) (last : Oper) : Bool :=
  (l ++ [last]).all (fun o => o.guard.isNone) && apart1 (l.map (·.dst)) &&
  (List.range l.length).all (fun i => needs last i || (List.range l.length).any (fun j => needs last j && (match l[j]? with | some o => needs o i | none => false))) &&
  (List.range (l.length + 1)).all (fun i => match (l ++ [last])[i]? with | some o => o.after.all fun e => !Region.binds .any e || decide (e.on < i) | none => true)
theorem wanted_of {o : Oper} {y : Nat → Option Bool} (h : o.guard.isNone = true) : Region.wanted o y = true := by
  unfold Region.wanted
  cases hg : o.guard with
  | none => rfl
  | some g => rw [hg] at h; simp at h
theorem region_each {l : List Oper} {last : Oper} {id : Nat} {a : Act} {w : World} (hm : P.follows .mixedOrders = true) (hsh : eachShape l last = true)
    (U : Nat → Option Nat) (V : Nat → Value → World → Prop) (iu : Nat) (G : Bool → World → Prop) (h0 : G (decide (iu < l.length)) w.drew)
    (hE : Each P Q l U V iu G (fun vs => putAll (l.map (·.dst)) 0 vs a) l 0)
    (hL : ∀ vs W, G false W → (∀ i, i < l.length → U i = none → V i (vs i) W) → Oper.wp P last (putAll (l.map (·.dst)) 0 vs a) W (fun a' W' => Q .normal a' W') Q) :
    (Code.region id (l ++ [last]).toArray true).wp P Q a w := by
  simp only [eachShape, Bool.and_eq_true, List.all_eq_true, List.mem_range] at hsh
  obtain ⟨⟨⟨hg, hap⟩, hcov⟩, hback⟩ := hsh
  obtain ⟨ops, hops⟩ : ∃ ops, ops = (l ++ [last]).toArray := ⟨_, rfl⟩
  have hsz : ops.size = l.length + 1 := by rw [hops]; simp
  have hat : ∀ i : Nat, ops[i]? = (l ++ [last])[i]? := by intro i; rw [hops]; simp
  rw [← hops]
  refine wp_region_any hm ?_
  let Inv : Array Bool → Act → World → Prop := fun listed a' W => listed.size = l.length + 1 ∧ (∀ (j : Nat) (o : Oper), l[j]? = some o → listed[j]? = some true → ∀ k : Nat, needs o k = true → listed[k]? = some true) ∧
    ((listed[l.length]? = some false ∧ ∃ vs, a' = putAll (l.map (·.dst)) 0 vs a ∧ G (decide (iu < l.length ∧ listed[iu]? = some false)) W ∧ ∀ i, i < l.length → listed[i]? = some true → (∀ k, U i = some k → listed[k]? = some false) → V i (vs i) W) ∨ ((∀ i, i < l.length + 1 → listed[i]? = some true) ∧ Q .normal a' W))
  have hstep : ∀ listed a' W i, Inv listed a' W → i ∈ Region.ready .any ops listed → listed[i]? = some false ∧ wpOp P ops Q i (Inv (listed.setIfInBounds i true)) a' W := by
    intro listed a' W i hI hi
    simp only [Region.ready, List.mem_filter, List.mem_range, Bool.and_eq_true, Bool.not_eq_true'] at hi
    obtain ⟨hi1, hi2, hi3⟩ := hi
    obtain ⟨hs, hcl, hI⟩ := hI
    have hli : listed[i]? = some false := by
      have hlt : i < listed.size := by omega
      rw [Array.getElem?_eq_getElem hlt]
      simp only [Array.getD, hlt, dite_true] at hi2
      rw [← hi2]
      rfl
    refine ⟨hli, ?_⟩
    rcases hI with ⟨hn, vs, rfl, hG, hV⟩ | ⟨hall, hQ⟩
    · have hget : ∃ o, ops[i]? = some o := ⟨ops[i], Array.getElem?_eq_getElem hi1⟩
      obtain ⟨o, ho⟩ := hget
      rw [ho] at hi3
      simp only [Option.map_some, Option.getD_some, Array.all_eq_true', Bool.or_eq_true, Bool.not_eq_true'] at hi3
      have ho' := ho
      rw [hat] at ho'
      have hmem : o ∈ l ++ [last] := List.mem_of_getElem? ho'
      have hneeds : ∀ j, needs o j = true → listed[j]? = some true := by
        intro j hj
        simp only [needs, List.any_eq_true, Array.mem_toList_iff, Bool.and_eq_true, beq_iff_eq] at hj
        obtain ⟨e, he, hb, rfl⟩ := hj
        rcases hi3 e he with h | h
        · rw [hb] at h; simp at h
        · unfold Array.getD at h
          split at h
          · rename_i hlt
            rw [Array.getElem?_eq_getElem hlt]
            exact congrArg some h
          · simp at h
      have hclo : ∀ (j : Nat) (q : Oper), l[j]? = some q → (listed.setIfInBounds i true)[j]? = some true → ∀ k : Nat, needs q k = true → (listed.setIfInBounds i true)[k]? = some true := by
        intro j q hq hj k hk
        by_cases e : k = i
        · subst e; rw [Array.getElem?_setIfInBounds, if_pos rfl, if_pos (by omega)]
        · rw [Array.getElem?_setIfInBounds_ne (fun h => e h.symm)]
          by_cases e2 : j = i
          · subst e2
            have hjl : j < l.length := (List.getElem?_eq_some_iff.1 hq).1
            rw [List.getElem?_append_left hjl, hq] at ho'
            injection ho' with ho'
            subst ho'
            exact hneeds k hk
          · rw [Array.getElem?_setIfInBounds_ne (fun h => e2 h.symm)] at hj
            exact hcl j q hq hj k hk
      unfold wpOp
      rw [ho]
      simp only
      rw [if_pos (wanted_of (hg o hmem))]
      left
      by_cases hil : i < l.length
      · have hol : l[i]? = some o := by rw [List.getElem?_append_left hil] at ho'; exact ho'
        refine hE.get i o hol vs W _ (fun e => ?_) (fun q hq hn2 => ?_) hG (fun j hj hu => hV j ?_ (hneeds j hj) (fun k hk => by
          rw [Nat.zero_add] at hu
          rcases hu with hu | hu
          · rw [hu] at hk; simp at hk
          · rw [hu] at hk; injection hk with hk; subst hk; exact hli)) _ ?_
        · rw [Nat.zero_add] at e
          subst e
          exact decide_eq_true ⟨hil, hli⟩
        · rw [Nat.zero_add] at hn2
          have hlu : iu < l.length := (List.getElem?_eq_some_iff.1 hq).1
          refine decide_eq_true ⟨hlu, ?_⟩
          have hus : iu < listed.size := by omega
          rw [Array.getElem?_eq_getElem hus]
          cases hb7 : listed[iu] with
          | false => rfl
          | true =>
            have := hcl iu q hq (by rw [Array.getElem?_eq_getElem hus, hb7]) i hn2
            rw [hli] at this
            simp at this
        · simp only [needs, List.any_eq_true, Array.mem_toList_iff, Bool.and_eq_true, beq_iff_eq] at hj
          obtain ⟨e, he, hb, rfl⟩ := hj
          have := hback i (by omega)
          rw [ho'] at this
          simp only [Array.all_eq_true', decide_eq_true_eq, Bool.or_eq_true, Bool.not_eq_true'] at this
          have := (this e he).resolve_left (by rw [hb]; decide)
          omega
        · intro v W' hG' hst hv
          rw [Nat.zero_add] at hst hv hG'
          have hG2 : G (decide (iu < l.length ∧ (listed.setIfInBounds i true)[iu]? = some false)) W' := by
            by_cases e : i = iu
            · subst e
              rw [if_pos rfl] at hG'
              rw [decide_eq_false]
              · exact hG'
              · rintro ⟨-, h7⟩
                rw [Array.getElem?_setIfInBounds, if_pos rfl, if_pos (by omega)] at h7
                simp at h7
            · rw [if_neg e] at hG'
              rw [Array.getElem?_setIfInBounds_ne e]
              exact hG'
          refine ⟨by simpa using hs, hclo, .inl ⟨?_, upd vs i v, ?_, hG2, ?_⟩⟩
          · rw [Array.getElem?_setIfInBounds_ne (by omega)]; exact hn
          · have := put_mid (l.map (·.dst)) 0 i vs a o.dst v hap (by simp [hol])
            rw [Nat.zero_add] at this
            exact this
          · intro j hj hlj hkj
            by_cases e : j = i
            · subst e; simpa [upd] using hv
            · rw [Array.getElem?_setIfInBounds_ne (fun h => e h.symm)] at hlj
              unfold upd
              rw [if_neg e]
              have hji : U j ≠ some i := fun hu => by
                have h7 := hkj i hu
                rw [Array.getElem?_setIfInBounds, if_pos rfl, if_pos (by omega)] at h7
                simp at h7
              refine hst j _ e hji (fun q hq => ?_) (hV j hj hlj (fun k hk => ?_))
              · cases hn2 : needs q i with
                | false => rfl
                | true =>
                  have := hcl j q hq hlj i hn2
                  rw [hli] at this
                  simp at this
              have hki : k ≠ i := fun h => hji (by rw [hk, h])
              have := hkj k hk
              rw [Array.getElem?_setIfInBounds_ne (fun h => hki h.symm)] at this
              exact this
      · obtain rfl : i = l.length := by omega
        have hol : o = last := by
          rw [List.getElem?_append_right (Nat.le_refl _)] at ho'
          simpa using ho'.symm
        subst hol
        have hcv : ∀ j, j < l.length → listed[j]? = some true := by
          intro j hj
          have h := hcov j hj
          simp only [Bool.or_eq_true, List.any_eq_true, List.mem_range, Bool.and_eq_true] at h
          rcases h with h | ⟨m, hm, h1, h2⟩
          · exact hneeds j h
          · cases hlm : l[m]? with
            | none => rw [hlm] at h2; cases h2
            | some om => rw [hlm] at h2; exact hcl m om hlm (hneeds m h1) j h2
        refine Oper.wp_mono (fun a' W' hQ => ?_) (hL vs W (by rw [decide_eq_false] at hG; (· exact hG); (rintro ⟨h8, h9⟩; rw [hcv iu h8] at h9; simp at h9)) (fun j hj hu => hV j hj (hcv j hj) (fun k hk => by rw [hu] at hk; simp at hk)))
        refine ⟨by simpa using hs, hclo, .inr ⟨fun j hj => ?_, hQ⟩⟩
        by_cases e : j = l.length
        · subst e; simp [hs]
        · rw [Array.getElem?_setIfInBounds_ne (fun h => e h.symm)]
          exact hcv j (by omega)
    · rw [hall i (by omega)] at hli
      simp at hli
  have hend : ∀ listed a' W, Inv listed a' W → Region.ready .any ops listed = [] → Q .normal a' W := by
    intro listed a' W hI hr
    obtain ⟨hs, -, ⟨hn, -⟩ | ⟨-, hQ⟩⟩ := hI
    · exfalso
      have key : ∀ i, i < l.length + 1 → listed[i]? = some true := by
        intro i
        induction i using Nat.strongRecOn with
        | ind i ih =>
          intro hi
          have hlt : i < listed.size := by omega
          rw [Array.getElem?_eq_getElem hlt]
          cases hb : listed[i] with
          | true => rfl
          | false =>
            exfalso
            have : i ∈ Region.ready .any ops listed := by
              simp only [Region.ready, List.mem_filter, List.mem_range, Bool.and_eq_true, Bool.not_eq_true']
              have hio : i < ops.size := by omega
              refine ⟨hio, by simp [Array.getD, hlt, hb], ?_⟩
              rw [Array.getElem?_eq_getElem hio]
              simp only [Option.map_some, Option.getD_some, Array.all_eq_true', Bool.or_eq_true, Bool.not_eq_true']
              intro e he
              by_cases hbd : Region.binds .any e = true
              rotate_left
              · exact .inl (by simpa using hbd)
              right
              have hb1 := hback i hi
              rw [← hat, Array.getElem?_eq_getElem hio] at hb1
              simp only [Array.all_eq_true', decide_eq_true_eq, Bool.or_eq_true, Bool.not_eq_true'] at hb1
              have h1 := (hb1 e he).resolve_left (by rw [hbd]; decide)
              have h2 := ih e.on h1 (by omega)
              have h3 : e.on < listed.size := by omega
              rw [Array.getElem?_eq_getElem h3] at h2
              simp only [Array.getD, h3, dite_true]
              injection h2
            rw [hr] at this
            simp at this
      rw [key _ (by omega)] at hn
      simp at hn
    · exact hQ
  have main : ∀ fuel listed a' W, listed.toList.countP (· == false) ≤ fuel → Inv listed a' W → wpAny P .any ops Q fuel listed a' W := by
    intro fuel
    induction fuel with
    | zero =>
      intro listed a' W hc hI
      have hr : Region.ready .any ops listed = [] := by
        rw [List.eq_nil_iff_forall_not_mem]
        intro i hi
        have := (hstep listed a' W i hI hi).1
        have hp : 0 < listed.toList.countP (· == false) := List.countP_pos_iff.2 ⟨false, List.mem_of_getElem? (i := i) (by simpa using this), rfl⟩
        omega
      exact ⟨hr, hend _ _ _ hI hr⟩
    | succ fuel ih =>
      intro listed a' W hc hI
      refine ⟨fun hr => hend _ _ _ hI hr, fun i hi => ?_⟩
      obtain ⟨h1, h2⟩ := hstep listed a' W i hI hi
      refine wpOp_mono (fun a2 W2 h => ih _ _ _ ?_ h) h2
      have hlt : i < listed.toList.length := by
        rcases Nat.lt_or_ge i listed.toList.length with h | h
        · exact h
        · exfalso
          have : listed.size ≤ i := by simpa using h
          rw [Array.getElem?_eq_none this] at h1
          simp at h1
      have hli : listed.toList[i] = false := by
        have : listed.toList[i]? = some false := by simpa using h1
        rw [List.getElem?_eq_getElem hlt] at this
        injection this
      rw [Array.toList_setIfInBounds, List.countP_set hlt, hli]
      show listed.toList.countP (· == false) - 1 + 0 ≤ fuel
      omega
  refine main _ _ _ _ ?_ ?_
  · have := List.countP_le_length (p := (· == false)) (l := (Array.replicate ops.size false).toList)
    simpa using this
  · refine ⟨by simp [hsz], fun j o _ hj => by (rw [hsz, Array.getElem?_replicate] at hj; split at hj <;> simp at hj), .inl ⟨by simp [hsz], fun i => match (l.map (·.dst))[i]? with | some (some d) => a.tmps.getD d undef | _ => undef, ?_, ?_, ?_⟩⟩
    · rw [putAll_same]
      intro j d hj
      simp only [Nat.zero_add, hj]
    · rw [decide_eq_decide.2 (show (iu < l.length ∧ (Array.replicate ops.size false)[iu]? = some false) ↔ iu < l.length from ⟨fun h => h.1, fun h => ⟨h, by rw [hsz, Array.getElem?_replicate, if_pos (by omega)]⟩⟩)]
      exact h0
    · intro i hi h _
      rw [hsz, Array.getElem?_replicate] at h
      split at h <;> simp at h
/-- The same at a region that is written out. -/
theorem region_each_lit {ops : List Oper} {id : Nat} {a : Act} {w : World} (hm : P.follows .mixedOrders = true) (hne : ops ≠ []) (hsh : eachShape ops.dropLast (ops.getLast hne) = true)
    (U : Nat → Option Nat) (V : Nat → Value → World → Prop) (iu : Nat) (G : Bool → World → Prop) (h0 : G (decide (iu < ops.dropLast.length)) w.drew)
    (hE : Each P Q ops.dropLast U V iu G (fun vs => putAll (ops.dropLast.map (·.dst)) 0 vs a) ops.dropLast 0)
    (hL : ∀ vs W, G false W → (∀ i, i < ops.dropLast.length → U i = none → V i (vs i) W) → Oper.wp P (ops.getLast hne) (putAll (ops.dropLast.map (·.dst)) 0 vs a) W (fun a' W' => Q .normal a' W') Q) :
    (Code.region id ops.toArray true).wp P Q a w := by
  have := region_each (id := id) (w := w) hm hsh U V iu G h0 hE hL
  rw [List.dropLast_concat_getLast hne] at this
  exact this
end
end Go.Proofs.Ytkjjfidbmkpljaa
