/- package ports: Write, Take. -/
import Derived.Test.YtkjjfidbmkpljaaPrt1
set_option linter.unusedVariables false
set_option linter.unusedSimpArgs false
namespace Go.Proofs.Ytkjjfidbmkpljaa
open Go.RowKit

abbrev PSt := List (Port × List Int)
def p0 : Port × List Int := (⟨0, 0, 0, 0⟩, [])
def putP (s : Port × List Int) (x : Int) : List Int := if s.1.kind = 0 then [x] else pushQ s.1.size.toNat s.2 x
def dropP (s : Port × List Int) : Bool := if s.1.kind = 0 then false else decide (s.2.length = s.1.size.toNat)
def takeP (s : Port × List Int) : List Int := if s.1.kind = 0 then s.2 else s.2.tail
def wErr (S : PSt) (part port x : Int) : Int := if port < 0 ∨ (S.length : Int) ≤ port ∨ x < 0 ∨ 4294967296 ≤ x then 1700 else if (S.getD port.toNat p0).1.from_ ≠ part then 1701 else 0
def wDrop (S : PSt) (part port x : Int) : Bool := decide (wErr S part port x = 0) && dropP (S.getD port.toNat p0)
def wSt (S : PSt) (part port x : Int) : PSt := if wErr S part port x = 0 then S.set port.toNat ((S.getD port.toNat p0).1, putP (S.getD port.toNat p0) x) else S
def tErr (S : PSt) (part port : Int) : Int := if port < 0 ∨ (S.length : Int) ≤ port then 1700 else if (S.getD port.toNat p0).1.to_ ≠ part then 1701 else 0
def tVal (S : PSt) (part port : Int) : Int := if tErr S part port = 0 then (S.getD port.toNat p0).2.headD 0 else 0
def tIs (S : PSt) (part port : Int) : Bool := decide (tErr S part port = 0) && !(S.getD port.toNat p0).2.isEmpty
def tSt (S : PSt) (part port : Int) : PSt := if tErr S part port = 0 then S.set port.toNat ((S.getD port.toNat p0).1, takeP (S.getD port.toNat p0)) else S
def Ln.st (l : Ln) : Port × List Int := (l.p, l.q)
/-- The ports: what they hold. -/
def PortsIs (W : World) (pb lo hi : Nat) (S : PSt) : Prop := ∃ Ls, PortsAt W pb lo hi Ls ∧ S = Ls.map Ln.st
def Between (lo hi k : Nat) : Prop := lo ≤ k ∧ k < hi
theorem PortsAt.line {W : World} {pb lo hi : Nat} {Ls : List Ln} (h : PortsAt W pb lo hi Ls) : ∃ la lc, W.heap[pb]? = some (.cells #[.slice la Ls.length lc] 72 (0, 0)) ∧ ∀ i (hi : i < Ls.length), ∃ lb, la = some ⟨lb, 0, none⟩ ∧ ∀ j v, (lineCells Ls[i].p Ls[i].c)[j]? = some v → W.cell? ⟨lb, i * 5 + j, none⟩ = some v := by
  obtain ⟨v, h1, h2, h3⟩ := h.row
  obtain ⟨la, lc, rfl⟩ := own_shape h2
  refine ⟨la, lc, h1, fun i hi => ?_⟩
  obtain ⟨g, cap', e, hg, hn, hm⟩ := ownsRow_some h2 (by omega)
  injection e with e _ _
  subst e
  refine ⟨g, rfl, fun j v hj => ?_⟩
  have hj5 : j < 5 := (List.getElem?_eq_some_iff.1 hj).1
  have hlt : i * 5 + j < Ls.length * 5 := by omega
  rw [h2.cellAt _ hlt, flat_get (fun l : Ln => lineCells l.p l.c) 5 (fun _ => rfl) Ls i hi j hj5]
  exact hj
theorem PortsAt.keep {W W' : World} {pb lo hi : Nat} {Ls : List Ln} (h : PortsAt W pb lo hi Ls) (hb : Below W.heap.size W W') : PortsAt W' pb lo hi Ls := by
  obtain ⟨v, h1, h2, h3⟩ := h.row
  exact ⟨h.pb1, h.pb2, Nat.le_trans h.hi2 hb.size, ⟨v, keep_at h1 hb, Below.kept h2 hb, h3⟩, fun l hl => (h.cars l hl).keep hb, h.blks, h.kind, h.ne⟩
theorem PortsAt.far {W W' : World} {pb lo hi : Nat} {Ls : List Ln} (h : PortsAt W pb lo hi Ls) {F : Nat → Prop} (hk : Keeps F W W') (hF : ∀ k, lo ≤ k → k < hi → ¬ F k) : PortsAt W' pb lo hi Ls := by
  obtain ⟨v, h1, h2, h3⟩ := h.row
  refine ⟨h.pb1, h.pb2, Nat.le_trans h.hi2 hk.size, ⟨v, hk.at h1 (hF pb h.pb1 h.pb2), hk.own h2 (fun g hg => hF g (h2.lt g hg).1 (h3 g hg)), h3⟩, fun l hl => ?_, h.blks, h.kind, h.ne⟩
  have hc := h.cars l hl
  have hb := h.blks l hl
  obtain ⟨p, c, q⟩ := l
  cases c with
  | smp g =>
    have := hb g (by simp [Car.all])
    exact ⟨hc.1, hk.at hc.2 (hF g this.1 this.2)⟩
  | que qb rb =>
    have h1 := hb qb (by simp [Car.all])
    have h2 := hb rb (by simp [Car.all])
    exact ⟨hk.at hc.1 (hF qb h1.1 h1.2), hc.2.keep (hk.block rb hc.2.lt (hF rb h2.1 h2.2))⟩
theorem car_apart {W W' : World} {c c' : Car} {k k' : Nat} {q q' : List Int} (h : CarAt W c k q) (h' : CarAt W c' k' q') (hne : c.blk ≠ c'.blk) (hg : W.grownBy W' (some c'.blk)) : CarAt W' c k q := by
  have hq : ∀ {qb rb : Nat}, W.heap[qb]? = some (.cells #[.pointer (some ⟨rb, 0, none⟩)] 129 (0, 0)) → W'.heap[qb]? = some (.cells #[.pointer (some ⟨rb, 0, none⟩)] 129 (0, 0)) := by
    intro qb rb hq
    cases c' with
    | smp g => exact typed_apart hq hg (fun g' e => by injection e with e; rw [← e]; exact ⟨_, h'.2⟩) (by decide)
    | que qb' rb' =>
      obtain ⟨_, cs, f, hr⟩ := h'
      exact typed_apart hq hg (fun g' e => by injection e with e; rw [← e]; exact ⟨_, hr.blk⟩) (by decide)
  have hb : ∀ {o : Obj}, W.heap[c.blk]? = some o → W'.heap[c.blk]? = some o := fun ho => (hg.block _ (lt_of_block ho) (fun e => by injection e with e; exact hne e)).trans ho
  cases c with
  | smp g => exact ⟨h.1, hb h.2⟩
  | que qb rb => exact ⟨hq h.1, h.2.keep (hg.block _ h.2.lt (fun e => by injection e with e; exact hne e))⟩
theorem car_typed {W : World} {c : Car} {k : Nat} {q : List Int} (h : CarAt W c k q) : ∃ t, Typed W c.blk t ∧ (t = 124 ∨ t = 139) := by
  cases c with
  | smp g => exact ⟨_, ⟨_, h.2⟩, .inl rfl⟩
  | que qb rb =>
    obtain ⟨_, cs, f, hr⟩ := h
    exact ⟨_, ⟨_, hr.blk⟩, .inr rfl⟩
/-- One line's values are other ones: its carrier has been written. -/
theorem PortsAt.set {W W' : World} {pb lo hi : Nat} {Ls : List Ln} (h : PortsAt W pb lo hi Ls) {i : Nat} (hi' : i < Ls.length) {q' : List Int} (hc : CarAt W' Ls[i].c Ls[i].k q') (hg : W.grownBy W' (some Ls[i].c.blk)) : PortsAt W' pb lo hi (Ls.set i ⟨Ls[i].p, Ls[i].c, q'⟩) := by
  obtain ⟨t, ht, htt⟩ := car_typed (h.cars _ (List.getElem_mem hi'))
  have hty : ∀ g, some Ls[i].c.blk = some g → Typed W g t := fun g e => by injection e with e; rw [← e]; exact ht
  obtain ⟨v, h1, h2, h3⟩ := h.row
  have hmem : ∀ l ∈ Ls.set i ⟨Ls[i].p, Ls[i].c, q'⟩, ∃ l' ∈ Ls, l'.p = l.p ∧ l'.c = l.c := by
    intro l hl
    rcases List.mem_or_eq_of_mem_set hl with hl | rfl
    · exact ⟨l, hl, rfl, rfl⟩
    · exact ⟨Ls[i], List.getElem_mem hi', rfl, rfl⟩
  have hflat : (Ls.set i ⟨Ls[i].p, Ls[i].c, q'⟩).flatMap (fun l => lineCells l.p l.c) = Ls.flatMap (fun l => lineCells l.p l.c) := by
    have : (Ls.set i ⟨Ls[i].p, Ls[i].c, q'⟩).map (fun l => lineCells l.p l.c) = Ls.map (fun l => lineCells l.p l.c) := by
      rw [List.map_set]
      exact List.ext_getElem (by simp) (fun j hj1 hj2 => by
        rw [List.getElem_set]
        split
        · subst_vars; simp
        · rfl)
    rw [List.flatMap_def, List.flatMap_def, this]
  refine ⟨h.pb1, h.pb2, Nat.le_trans h.hi2 hg.size, ⟨v, ?_, ?_, h3⟩, ?_, ?_, ?_, ?_⟩
  · exact typed_apart h1 hg hty (by rcases htt with rfl | rfl <;> decide)
  · rw [List.length_set, hflat]
    exact own_apart h2 hg hty (by rcases htt with rfl | rfl <;> decide)
  · intro l hl
    obtain ⟨j, hj, rfl⟩ := List.mem_iff_getElem.1 hl
    rw [List.length_set] at hj
    rw [List.getElem_set]
    split
    · subst_vars; exact hc
    · rename_i hne
      refine car_apart (h.cars _ (List.getElem_mem hj)) (h.cars _ (List.getElem_mem hi')) ?_ hg
      rcases Nat.lt_or_gt_of_ne hne with hlt | hlt
      · exact fun e => (List.pairwise_iff_getElem.1 h.ne) i j hi' hj hlt e.symm
      · exact (List.pairwise_iff_getElem.1 h.ne) j i hj hi' hlt
  · intro l hl b hb
    obtain ⟨l', hl', _, e⟩ := hmem l hl
    exact h.blks l' hl' b (e ▸ hb)
  · intro l hl
    obtain ⟨l', hl', e1, e2⟩ := hmem l hl
    have := h.kind l' hl'
    rw [e1, e2] at this
    exact this
  · rw [List.pairwise_iff_getElem] at *
    have hp := List.pairwise_iff_getElem.1 h.ne
    intro a b ha hb hab
    rw [List.length_set] at ha hb
    have e : ∀ j (hj : j < Ls.length), ((Ls.set i ⟨Ls[i].p, Ls[i].c, q'⟩)[j]'(by simpa using hj)).c = Ls[j].c := by
      intro j hj
      rw [List.getElem_set]
      split
      · subst_vars; rfl
      · rfl
    rw [e a ha, e b hb]
    exact hp a b ha hb hab
theorem wordMay_any (x : Int) (w : World) : Calls Try.prog 35 #[.int .i64 x] w fun e w' => e = .returned (.bool (decide (0 ≤ x ∧ x < 4294967296))) ∧ w' = w := by
  go_enter Try.func35, Try.ntmps35
  by_cases h : 0 ≤ x
  · have h' : decide (0 ≤ x) = true := decide_eq_true h
    go_wp2_with fail
    go_ret
    exact ⟨ret_bool (by simp [h]), rfl⟩
  · have h' : decide (0 ≤ x) = false := decide_eq_false h
    go_wp2_with fail
    go_ret
    exact ⟨ret_bool (by simp [h]), rfl⟩
theorem there_any (pb : Nat) (la : Option Addr) (n lc : Nat) (port : Int) (w : World) (hp : w.cell? ⟨pb, 0, none⟩ = some (.slice la n lc)) : Calls Try.prog 34 #[.pointer (some ⟨pb, 0, none⟩), .int .i64 port] w fun e w' => e = .returned (.bool (decide (0 ≤ port ∧ port < n))) ∧ w' = w := by
  go_enter Try.func34, Try.ntmps34
  by_cases h : 0 ≤ port
  · have h' : decide (0 ≤ port) = true := decide_eq_true h
    go_wp2_with fail
    go_ret
    exact ⟨ret_bool (by simp [h]), rfl⟩
  · have h' : decide (0 ≤ port) = false := decide_eq_false h
    go_wp2_with fail
    go_ret
    exact ⟨ret_bool (by simp [h]), rfl⟩
theorem meth_sput (n : Nat) (v : Value) (w : World) : (method (n + 1) 76 v "nocturn/ports.put").run Try.prog w = .ok (90, v) w := by kernel_rfl
theorem meth_speek (n : Nat) (v : Value) (w : World) : (method (n + 1) 76 v "nocturn/ports.peek").run Try.prog w = .ok (89, v) w := by kernel_rfl
theorem meth_sread (n : Nat) (v : Value) (w : World) : (method (n + 1) 76 (.agg #[v]) "Read").run Try.prog w = .ok (87, v) w := by kernel_rfl
theorem meth_qput (n : Nat) (v : Value) (w : World) : (method (n + 1) 85 v "nocturn/ports.put").run Try.prog w = .ok (96, v) w := by kernel_rfl
theorem meth_qpeek (n : Nat) (v : Value) (w : World) : (method (n + 1) 85 v "nocturn/ports.peek").run Try.prog w = .ok (95, v) w := by kernel_rfl
theorem meth_qread (n : Nat) (v : Value) (w : World) : (method (n + 1) 85 (.agg #[v]) "Read").run Try.prog w = .ok (92, v) w := by kernel_rfl
set_option maxRecDepth 100000 in
set_option maxHeartbeats 8000000 in
theorem ports_write (pb lo hi : Nat) (S : PSt) (part port x : Int) (w : World) (h : PortsIs w pb lo hi S) :
    Calls Try.prog 14 #[.pointer (some ⟨pb, 0, none⟩), .int .i64 part, .int .i64 port, .int .i64 x] w fun e w' => e = .returned (.tuple #[.bool (wDrop S part port x), .int .i64 (wErr S part port x)]) ∧ PortsIs w' pb lo hi (wSt S part port x) ∧ Keeps (Between lo hi) w w' := by
  obtain ⟨Ls, h, rfl⟩ := h
  obtain ⟨la, lc, hcell, hline⟩ := h.line
  have y0 := BlockIs.of hcell 0 _ rfl
  have HP := Lib.hid h
  go_enter Try.func14, Try.ntmps14
  go_wp2_with fail
  refine (there_any pb la Ls.length lc port w y0).mono ?_
  rintro e w1 ⟨rfl, rfl⟩
  by_cases h1 : 0 ≤ port ∧ port < (Ls.length : Int)
  · rw [decide_eq_true h1]
    go_wp2_with fail
    refine (wordMay_any x _).mono ?_
    rintro e w2 ⟨rfl, rfl⟩
    by_cases h2 : 0 ≤ x ∧ x < 4294967296
    · rw [decide_eq_true h2]
      obtain ⟨i, rfl⟩ := Int.eq_ofNat_of_zero_le h1.1
      have hi' : i < Ls.length := by omega
      obtain ⟨lb, rfl, hc⟩ := hline i hi'
      have z0 := hc 0 _ rfl
      have z1 := hc 1 _ rfl
      have z2 := hc 2 _ rfl
      have z3 := hc 3 _ rfl
      have z4 := hc 4 _ rfl
      clear hc hline hcell h
      have hget : (Ls.map Ln.st).getD i p0 = (Ls[i].p, Ls[i].q) := by rw [List.getD_eq_getElem?_getD, List.getElem?_map, List.getElem?_eq_getElem hi']; rfl
      have HCA := Lib.hid (HP.out.cars _ (List.getElem_mem hi'))
      have HBK := Lib.hid (HP.out.blks _ (List.getElem_mem hi'))
      by_cases h3 : Ls[i].p.from_ = part
      · have h3' : (Ls[i].p.from_ != part) = false := by simpa using h3
        have hE : wErr (Ls.map Ln.st) part (i : Int) x = 0 := by unfold wErr; rw [if_neg (by rw [List.length_map]; omega), Int.toNat_natCast, hget, if_neg (by simpa using h3)]
        have HE := Lib.hid hE
        have hS : ∀ q', q' = putP (Ls[i].p, Ls[i].q) x → (Ls.set i ⟨Ls[i].p, Ls[i].c, q'⟩).map Ln.st = wSt (Ls.map Ln.st) part (i : Int) x := by
          intro q' hq'
          unfold wSt
          rw [if_pos hE, Int.toNat_natCast, hget, List.map_set, hq']
          rfl
        have hD : wDrop (Ls.map Ln.st) part (i : Int) x = dropP (Ls[i].p, Ls[i].q) := by unfold wDrop; rw [hE, Int.toNat_natCast, hget]; rfl
        have HS := Lib.hid (And.intro hS hD)
        clear h3 hE hS hD hget h2
        rcases HP.out.kind _ (List.getElem_mem hi') with ⟨hk, g, hcar⟩ | ⟨hk, qb, rb, hcar⟩
        · have HK := Lib.hid (And.intro hk hcar)
          have hca := HCA.out
          rw [hcar] at z4 hca
          unfold Car.val at z4
          have m1 := meth_sput
          clear hk hcar
          go_wp2_with fail
          refine (smpPut_any g Ls[i].q x _ hca).mono ?_
          rintro e w3 ⟨rfl, hs, hg⟩
          have hcn : CarAt w3 Ls[i].c Ls[i].k [x] := by rw [HK.out.2]; exact hs
          have hgn : World.grownBy w2 w3 (some Ls[i].c.blk) := by rw [HK.out.2]; exact hg
          have HN := Lib.hid (HP.out.set hi' hcn hgn)
          have HKP := Lib.hid (Keeps.of_grown (F := Between lo hi) hgn (fun k e => by injection e with e; rw [← e]; exact HBK.out _ (by cases Ls[i].c <;> simp [Car.all, Car.blk])))
          have HSE := Lib.hid (HS.out.1 [x] (by unfold putP; rw [if_pos HK.out.1]))
          clear hs hg hca hcn hgn
          go_wp2_with fail
          go_ret2
          exact ⟨by rw [HS.out.2, HE.out]; unfold dropP; rw [if_pos HK.out.1]; rfl, ⟨_, HN.out, HSE.out.symm⟩, HKP.out⟩
        · have HK := Lib.hid (And.intro hk hcar)
          have hca := HCA.out
          rw [hcar] at z4 hca
          unfold Car.val at z4
          have m1 := meth_qput
          clear hk hcar
          go_wp2_with fail
          refine (quePut_any qb rb Ls[i].k Ls[i].q x _ hca.1 hca.2).mono ?_
          rintro e w3 ⟨rfl, hs, hg⟩
          obtain ⟨dd, hdd⟩ : ∃ dd, dd = decide (Ls[i].q.length = Ls[i].k) := ⟨_, rfl⟩
          rw [← hdd]
          have HDD := Lib.hid hdd
          clear hdd
          have hcn : CarAt w3 Ls[i].c Ls[i].k (pushQ Ls[i].k Ls[i].q x) := by rw [HK.out.2]; exact ⟨typed_apart hca.1 hg (fun g e => by injection e with e; rw [← e]; obtain ⟨cs, f, hr⟩ := hca.2; exact ⟨_, hr.blk⟩) (by decide), hs⟩
          have hgn : World.grownBy w2 w3 (some Ls[i].c.blk) := by rw [HK.out.2]; exact hg
          have HN := Lib.hid (HP.out.set hi' hcn hgn)
          have HKP := Lib.hid (Keeps.of_grown (F := Between lo hi) hgn (fun k e => by injection e with e; rw [← e]; exact HBK.out _ (by cases Ls[i].c <;> simp [Car.all, Car.blk])))
          have HSE := Lib.hid (HS.out.1 (pushQ Ls[i].k Ls[i].q x) (by unfold putP; rw [if_neg (by rw [HK.out.1]; decide)]; rfl))
          clear hs hg hca hcn hgn
          go_wp2_with fail
          go_ret2
          exact ⟨by rw [HS.out.2, HE.out]; unfold dropP; rw [if_neg (by rw [HK.out.1]; decide), show (Ls[i].p, Ls[i].q).1.size.toNat = Ls[i].k from rfl]; first | rfl | (rw [← HDD.out]; rfl), ⟨_, HN.out, HSE.out.symm⟩, HKP.out⟩
      · have h3' : (Ls[i].p.from_ != part) = true := by simpa using h3
        have HE := Lib.hid (show wErr (Ls.map Ln.st) part (i : Int) x = 1701 by unfold wErr; rw [if_neg (by rw [List.length_map]; omega), Int.toNat_natCast, hget, if_pos (by simpa using h3)])
        go_wp2_with fail
        go_ret2
        have hne : ¬ wErr (Ls.map Ln.st) part (i : Int) x = 0 := by rw [HE.out]; decide
        exact ⟨by rw [show wDrop (Ls.map Ln.st) part (i : Int) x = false by unfold wDrop; rw [decide_eq_false hne]; rfl, HE.out]; rfl, ⟨Ls, HP.out, by unfold wSt; rw [if_neg hne]⟩, Keeps.refl _ _⟩
    · rw [decide_eq_false h2]
      have HE := Lib.hid (show wErr (Ls.map Ln.st) part port x = 1700 by unfold wErr; rw [if_pos (by omega)])
      go_wp2_with fail
      go_ret2
      have hne : ¬ wErr (Ls.map Ln.st) part port x = 0 := by rw [HE.out]; decide
      exact ⟨by rw [show wDrop (Ls.map Ln.st) part port x = false by unfold wDrop; rw [decide_eq_false hne]; rfl, HE.out]; rfl, ⟨Ls, HP.out, by unfold wSt; rw [if_neg hne]⟩, Keeps.refl _ _⟩
  · rw [decide_eq_false h1]
    have HE := Lib.hid (show wErr (Ls.map Ln.st) part port x = 1700 by unfold wErr; rw [if_pos (by rw [List.length_map]; omega)])
    go_wp2_with fail
    go_ret2
    have hne : ¬ wErr (Ls.map Ln.st) part port x = 0 := by rw [HE.out]; decide
    exact ⟨by rw [show wDrop (Ls.map Ln.st) part port x = false by unfold wDrop; rw [decide_eq_false hne]; rfl, HE.out]; rfl, ⟨Ls, HP.out, by unfold wSt; rw [if_neg hne]⟩, Keeps.refl _ _⟩
set_option maxRecDepth 100000 in
set_option maxHeartbeats 8000000 in
theorem ports_take (pb lo hi : Nat) (S : PSt) (part port : Int) (w : World) (h : PortsIs w pb lo hi S) :
    Calls Try.prog 16 #[.pointer (some ⟨pb, 0, none⟩), .int .i64 part, .int .i64 port] w fun e w' => e = .returned (.tuple #[.int .i64 (tVal S part port), .bool (tIs S part port), .int .i64 (tErr S part port)]) ∧ PortsIs w' pb lo hi (tSt S part port) ∧ Keeps (Between lo hi) w w' := by
  obtain ⟨Ls, h, rfl⟩ := h
  obtain ⟨la, lc, hcell, hline⟩ := h.line
  have y0 := BlockIs.of hcell 0 _ rfl
  have HP := Lib.hid h
  go_enter Try.func16, Try.ntmps16
  go_wp2_with fail
  refine (there_any pb la Ls.length lc port w y0).mono ?_
  rintro e w1 ⟨rfl, rfl⟩
  by_cases h1 : 0 ≤ port ∧ port < (Ls.length : Int)
  · rw [decide_eq_true h1]
    obtain ⟨i, rfl⟩ := Int.eq_ofNat_of_zero_le h1.1
    have hi' : i < Ls.length := by omega
    obtain ⟨lb, rfl, hc⟩ := hline i hi'
    have z0 := hc 0 _ rfl
    have z1 := hc 1 _ rfl
    have z2 := hc 2 _ rfl
    have z3 := hc 3 _ rfl
    have z4 := hc 4 _ rfl
    clear hc hline hcell h
    have hget : (Ls.map Ln.st).getD i p0 = (Ls[i].p, Ls[i].q) := by rw [List.getD_eq_getElem?_getD, List.getElem?_map, List.getElem?_eq_getElem hi']; rfl
    have HCA := Lib.hid (HP.out.cars _ (List.getElem_mem hi'))
    have HBK := Lib.hid (HP.out.blks _ (List.getElem_mem hi'))
    by_cases h3 : Ls[i].p.to_ = part
    · have h3' : (Ls[i].p.to_ != part) = false := by simpa using h3
      have hE : tErr (Ls.map Ln.st) part (i : Int) = 0 := by unfold tErr; rw [if_neg (by rw [List.length_map]; omega), Int.toNat_natCast, hget, if_neg (by simpa using h3)]
      have HE := Lib.hid hE
      have hS : ∀ q', q' = takeP (Ls[i].p, Ls[i].q) → (Ls.set i ⟨Ls[i].p, Ls[i].c, q'⟩).map Ln.st = tSt (Ls.map Ln.st) part (i : Int) := by
        intro q' hq'
        unfold tSt
        rw [if_pos hE, Int.toNat_natCast, hget, List.map_set, hq']
        rfl
      have hD : tVal (Ls.map Ln.st) part (i : Int) = Ls[i].q.headD 0 ∧ tIs (Ls.map Ln.st) part (i : Int) = !Ls[i].q.isEmpty := by
        constructor
        · unfold tVal; rw [if_pos hE, Int.toNat_natCast, hget]
        · unfold tIs; rw [hE, Int.toNat_natCast, hget]; rfl
      have HS := Lib.hid (And.intro hS hD)
      clear h3 hE hS hD hget
      rcases HP.out.kind _ (List.getElem_mem hi') with ⟨hk, g, hcar⟩ | ⟨hk, qb, rb, hcar⟩
      · have HK := Lib.hid (And.intro hk hcar)
        have hca := HCA.out
        rw [hcar] at z4 hca
        unfold Car.val at z4
        have m1 := meth_sread
        clear hk hcar
        go_wp2_with fail
        refine (smpRead_any g Ls[i].q _ hca).mono ?_
        rintro e w3 ⟨rfl, mm, rfl⟩
        have hs : SmpAt (w1.drewN mm) g Ls[i].q := ⟨hca.1, hca.2⟩
        have hg := grown_drewN w1 mm (some g)
        obtain ⟨dd, hdd⟩ : ∃ dd, dd = !Ls[i].q.isEmpty := ⟨_, rfl⟩
        obtain ⟨hh, hhh⟩ : ∃ hh, hh = Ls[i].q.headD 0 := ⟨_, rfl⟩
        rw [← hdd, ← hhh]
        have HDD := Lib.hid (And.intro hhh hdd)
        clear hdd hhh
        have hcn : CarAt (w1.drewN mm) Ls[i].c Ls[i].k Ls[i].q := by rw [HK.out.2]; exact hs
        have hgn : World.grownBy w1 (w1.drewN mm) (some Ls[i].c.blk) := by rw [HK.out.2]; exact hg
        have HN := Lib.hid (HP.out.set hi' hcn hgn)
        have HKP := Lib.hid (Keeps.of_grown (F := Between lo hi) hgn (fun k e => by injection e with e; rw [← e]; exact HBK.out _ (by cases Ls[i].c <;> simp [Car.all, Car.blk])))
        have HSE := Lib.hid (HS.out.1 Ls[i].q (by unfold takeP; rw [if_pos HK.out.1]))
        clear hs hg hca hcn hgn
        go_wp2_with fail
        refine bodyPost_ret (results_tmp3 rfl _ _ _) rfl ?_
        exact ⟨by rw [HS.out.2.1, HS.out.2.2, HE.out, ← HDD.out.1, ← HDD.out.2]; rfl, ⟨_, HN.out, HSE.out.symm⟩, HKP.out⟩
      · have HK := Lib.hid (And.intro hk hcar)
        have hca := HCA.out
        rw [hcar] at z4 hca
        unfold Car.val at z4
        have m1 := meth_qread
        clear hk hcar
        go_wp2_with fail
        refine (queRead_any qb rb Ls[i].k Ls[i].q _ hca.1 hca.2).mono ?_
        rintro e w3 ⟨rfl, hs, hg⟩
        obtain ⟨dd, hdd⟩ : ∃ dd, dd = !Ls[i].q.isEmpty := ⟨_, rfl⟩
        obtain ⟨hh, hhh⟩ : ∃ hh, hh = Ls[i].q.headD 0 := ⟨_, rfl⟩
        rw [← hdd, ← hhh]
        have HDD := Lib.hid (And.intro hhh hdd)
        clear hdd hhh
        have hcn : CarAt w3 Ls[i].c Ls[i].k Ls[i].q.tail := by rw [HK.out.2]; exact ⟨typed_apart hca.1 hg (fun g e => by injection e with e; rw [← e]; obtain ⟨cs, f, hr⟩ := hca.2; exact ⟨_, hr.blk⟩) (by decide), hs⟩
        have hgn : World.grownBy w1 w3 (some Ls[i].c.blk) := by rw [HK.out.2]; exact hg
        have HN := Lib.hid (HP.out.set hi' hcn hgn)
        have HKP := Lib.hid (Keeps.of_grown (F := Between lo hi) hgn (fun k e => by injection e with e; rw [← e]; exact HBK.out _ (by cases Ls[i].c <;> simp [Car.all, Car.blk])))
        have HSE := Lib.hid (HS.out.1 Ls[i].q.tail (by unfold takeP; rw [if_neg (by rw [HK.out.1]; decide)]))
        clear hs hg hca hcn hgn
        go_wp2_with fail
        refine bodyPost_ret (results_tmp3 rfl _ _ _) rfl ?_
        exact ⟨by rw [HS.out.2.1, HS.out.2.2, HE.out, ← HDD.out.1, ← HDD.out.2]; rfl, ⟨_, HN.out, HSE.out.symm⟩, HKP.out⟩
    · have h3' : (Ls[i].p.to_ != part) = true := by simpa using h3
      have HE := Lib.hid (show tErr (Ls.map Ln.st) part (i : Int) = 1701 by unfold tErr; rw [if_neg (by rw [List.length_map]; omega), Int.toNat_natCast, hget, if_pos (by simpa using h3)])
      go_wp2_with fail
      refine bodyPost_ret (results_tmp3 rfl _ _ _) rfl ?_
      have hne : ¬ tErr (Ls.map Ln.st) part (i : Int) = 0 := by rw [HE.out]; decide
      exact ⟨by rw [show tVal (Ls.map Ln.st) part (i : Int) = 0 by unfold tVal; rw [if_neg hne], show tIs (Ls.map Ln.st) part (i : Int) = false by unfold tIs; rw [decide_eq_false hne]; rfl, HE.out]; rfl, ⟨Ls, HP.out, by unfold tSt; rw [if_neg hne]⟩, Keeps.refl _ _⟩
  · rw [decide_eq_false h1]
    have HE := Lib.hid (show tErr (Ls.map Ln.st) part port = 1700 by unfold tErr; rw [if_pos (by rw [List.length_map]; omega)])
    go_wp2_with fail
    refine bodyPost_ret (results_tmp3 rfl _ _ _) rfl ?_
    have hne : ¬ tErr (Ls.map Ln.st) part port = 0 := by rw [HE.out]; decide
    exact ⟨by rw [show tVal (Ls.map Ln.st) part port = 0 by unfold tVal; rw [if_neg hne], show tIs (Ls.map Ln.st) part port = false by unfold tIs; rw [decide_eq_false hne]; rfl, HE.out]; rfl, ⟨Ls, HP.out, by unfold tSt; rw [if_neg hne]⟩, Keeps.refl _ _⟩
end Go.Proofs.Ytkjjfidbmkpljaa
