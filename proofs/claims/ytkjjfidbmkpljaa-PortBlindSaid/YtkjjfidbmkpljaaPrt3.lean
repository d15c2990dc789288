/- package ports: Gets, Outs. -/
import Derived.Test.YtkjjfidbmkpljaaPrt2
set_option linter.unusedVariables false
set_option linter.unusedSimpArgs false
namespace Go.Proofs.Ytkjjfidbmkpljaa
open Go.RowKit

def getP (part : Int) (s : Port × List Int) : Int := if s.1.to_ = part then s.2.headD 0 else -1
def getsS (S : PSt) (part : Int) : List Int := S.map (getP part)
theorem gets_snoc (Ls : List Ln) (part : Int) (i : Nat) (h : i < Ls.length) : getsS ((Ls.map Ln.st).take (i + 1)) part = getsS ((Ls.map Ln.st).take i) part ++ [getP part (Ls[i].p, Ls[i].q)] := by
  unfold getsS
  rw [List.take_add_one, List.getElem?_map, List.getElem?_eq_getElem h]
  simp only [Option.map_some, Option.toList_some, List.map_append, List.map_cons, List.map_nil]
  rfl
theorem gets_len (Ls : List Ln) (part : Int) : (getsS (Ls.map Ln.st) part).length = Ls.length := by simp [getsS]
theorem peek_any (c : Car) (k : Nat) (q : List Int) (w : World) (h : CarAt w c k q) : (∀ g, c = .smp g → Calls Try.prog 89 #[.agg #[.pointer (some ⟨g, 0, none⟩)]] w fun e w' => e = .returned (.int .i64 (q.headD 0)) ∧ Below w.heap.size w w') ∧ (∀ qb rb, c = .que qb rb → Calls Try.prog 95 #[.agg #[.pointer (some ⟨qb, 0, none⟩)]] w fun e w' => e = .returned (.int .i64 (q.headD 0)) ∧ Below w.heap.size w w') :=
  ⟨fun g e => by subst e; exact smpPeek_any g q w h, fun qb rb e => by subst e; exact quePeek_any qb rb k q w h.1 h.2⟩
theorem car_iface {c : Car} {cv : Value} (h : cv = c.val) : ∃ t u, cv = .iface t u := by cases c <;> exact ⟨_, _, h⟩
set_option maxRecDepth 100000 in
set_option maxHeartbeats 8000000 in
theorem ports_gets (pb lo hi : Nat) (S : PSt) (part : Int) (w : World) (h : PortsIs w pb lo hi S) (hn : S.length ≤ 8) :
    Calls Try.prog 18 #[.pointer (some ⟨pb, 0, none⟩), .int .i64 part] w fun e w' => ∃ v, e = .returned v ∧ IntRow w' w.heap.size v (getsS S part) ∧ Below w.heap.size w w' := by
  obtain ⟨Ls, h, rfl⟩ := h
  rw [List.length_map] at hn
  obtain ⟨la, lc, hcell, hline⟩ := h.line
  have y0 := BlockIs.of hcell 0 _ rfl
  have HP := Lib.hid h
  have HL := Lib.hid hline
  clear h hline hcell
  go_enter Try.func18, Try.ntmps18
  go_wp2_with fail
  go_loopw [5, 15] (fun r a wr => ∃ i : Nat, i ≤ Ls.length ∧ a = .int .i64 i ∧ Hid (IntRow wr w.heap.size r (getsS ((Ls.map Ln.st).take i) part)) ∧ Hid (Below w.heap.size w wr)) (fun _ a _ => Ls.length - (intOf a).toNat)
  case atStart => exact ⟨0, by omega, rfl, Lib.hid (World.ownsRow_nil _ _ _ _), Lib.hid (Below.refl _ _)⟩
  case round =>
    obtain ⟨i, hi', rfl, HR, HB⟩ := hrel
    by_cases hlt : i < Ls.length
    · obtain ⟨lb, rfl, hc⟩ := HL.out i hlt
      have z0 := Ext.below HB.out _ _ (hc 0 _ rfl)
      have z1 := Ext.below HB.out _ _ (hc 1 _ rfl)
      have z2 := Ext.below HB.out _ _ (hc 2 _ rfl)
      have z3 := Ext.below HB.out _ _ (hc 3 _ rfl)
      have z4 := Ext.below HB.out _ _ (hc 4 _ rfl)
      simp only [Nat.add_zero] at z0
      obtain ⟨cv, hcv⟩ : ∃ cv, cv = Ls[i].c.val := ⟨_, rfl⟩
      rw [← hcv] at z4
      obtain ⟨ct, cu, rfl⟩ := car_iface hcv
      have HCV := Lib.hid hcv
      have HSN := Lib.hid (gets_snoc Ls part i hlt)
      have hgl : (getsS ((Ls.map Ln.st).take i) part).length ≤ 8 := by unfold getsS; rw [List.length_map, List.length_take, List.length_map]; omega
      have HCA := Lib.hid (HP.out.cars _ (List.getElem_mem hlt))
      have HKD := Lib.hid (HP.out.kind _ (List.getElem_mem hlt))
      clear hc hcv
      obtain ⟨w3, hw_w3⟩ : ∃ w3, w3 = wr.alloc (.cells #[.int .i64 Ls[i].p.kind, .int .i64 Ls[i].p.from_, .int .i64 Ls[i].p.to_, .int .i64 Ls[i].p.size, .iface ct cu] 80) := ⟨_, rfl⟩
      obtain ⟨bx, hg_bx⟩ : ∃ bx, bx = wr.heap.size := ⟨_, rfl⟩
      have hb_w3 : Below wr.heap.size wr w3 := by rw [hw_w3]; exact balloc _ _
      have hk_bx : w3.heap[bx]? = some (.cells #[.int .i64 Ls[i].p.kind, .int .i64 Ls[i].p.from_, .int .i64 Ls[i].p.to_, .int .i64 Ls[i].p.size, .iface ct cu] 80 (0, 0)) := by rw [hw_w3, hg_bx]; exact blk_new _ _
      have hs_w3 : w3.heap.size = wr.heap.size + 1 := by rw [hw_w3]; simp
      have HX := Lib.hid hk_bx
      have HB3 := Lib.hid (bthen HB.out hb_w3)
      have HR3 := Lib.hid (show IntRow w3 w.heap.size u5 _ from Below.kept HR.out hb_w3)
      have HB3x := Lib.hid hb_w3
      clear hk_bx hb_w3 hs_w3
      go_upto_region 7 with (fail)
      rw [← hw_w3, ← hg_bx]
      clear hw_w3 hg_bx z0 z1 z2 z3 z4
      have x2 := BlockIs.of HX.out 2 _ rfl
      have x4 := BlockIs.of HX.out 4 _ rfl
      by_cases hto : Ls[i].p.to_ = part
      · have hto' : (Ls[i].p.to_ == part) = true := by simpa using hto
        have HG := Lib.hid (show getP part (Ls[i].p, Ls[i].q) = Ls[i].q.headD 0 by unfold getP; rw [if_pos hto])
        clear hto
        rcases HKD.out with ⟨hk, g, hcar⟩ | ⟨hk, qb, rb, hcar⟩
        · rw [HCV.out, hcar] at x4
          unfold Car.val at x4
          have HPK := Lib.hid (fun W2 (hW2 : CarAt W2 Ls[i].c Ls[i].k Ls[i].q) => (peek_any Ls[i].c Ls[i].k Ls[i].q W2 hW2).1 g hcar)
          have m1 := meth_speek
          clear hk hcar
          go_wp2_with fail
          refine (HPK.out _ (HCA.out.keep (bthen HB.out HB3x.out))).mono ?_
          rintro e w4 ⟨rfl, hb4⟩
          have HB4 := Lib.hid (bthen HB3.out hb4)
          have HR4 := Lib.hid (show IntRow w4 w.heap.size u5 _ from Below.kept HR3.out hb4)
          obtain ⟨y, hy⟩ : ∃ y, y = Ls[i].q.headD 0 := ⟨_, rfl⟩
          rw [← hy] at HG ⊢
          clear hb4 hy
          go_wp2_with (at_builtin; refine append_elem rfl (.tmp 24) (.tmp 28) 49 rfl w.heap.size 3 _ 1 8 Try.underlying49 infoInt rfl (by decide) u5 _ _ rfl HR4.out (intCell y) _ rfl rfl rfl rfl (by omega) (by omega) HB4.out.size ?_)
          intro v2 w5 hown hbel hg
          have HN := Lib.hid (show IntRow w5 w.heap.size v2 (getsS ((Ls.map Ln.st).take (i + 1)) part) by rw [HSN.out, HG.out]; exact IntRow.snoc rfl hown)
          have HB5 := Lib.hid (HB4.out.trans hbel)
          obtain ⟨va, vc, rfl⟩ := own_shape hown
          clear hown hbel hg
          go_wp2_with fail
          go_roundw
          case rel => exact ⟨i + 1, by omega, by go_num, HN, HB5⟩
          case measure => simp [intOf]; omega
        · rw [HCV.out, hcar] at x4
          unfold Car.val at x4
          have HPK := Lib.hid (fun W2 (hW2 : CarAt W2 Ls[i].c Ls[i].k Ls[i].q) => (peek_any Ls[i].c Ls[i].k Ls[i].q W2 hW2).2 qb rb hcar)
          have m1 := meth_qpeek
          clear hk hcar
          go_wp2_with fail
          refine (HPK.out _ (HCA.out.keep (bthen HB.out HB3x.out))).mono ?_
          rintro e w4 ⟨rfl, hb4⟩
          have HB4 := Lib.hid (bthen HB3.out hb4)
          have HR4 := Lib.hid (show IntRow w4 w.heap.size u5 _ from Below.kept HR3.out hb4)
          obtain ⟨y, hy⟩ : ∃ y, y = Ls[i].q.headD 0 := ⟨_, rfl⟩
          rw [← hy] at HG ⊢
          clear hb4 hy
          go_wp2_with (at_builtin; refine append_elem rfl (.tmp 24) (.tmp 28) 49 rfl w.heap.size 3 _ 1 8 Try.underlying49 infoInt rfl (by decide) u5 _ _ rfl HR4.out (intCell y) _ rfl rfl rfl rfl (by omega) (by omega) HB4.out.size ?_)
          intro v2 w5 hown hbel hg
          have HN := Lib.hid (show IntRow w5 w.heap.size v2 (getsS ((Ls.map Ln.st).take (i + 1)) part) by rw [HSN.out, HG.out]; exact IntRow.snoc rfl hown)
          have HB5 := Lib.hid (HB4.out.trans hbel)
          obtain ⟨va, vc, rfl⟩ := own_shape hown
          clear hown hbel hg
          go_wp2_with fail
          go_roundw
          case rel => exact ⟨i + 1, by omega, by go_num, HN, HB5⟩
          case measure => simp [intOf]; omega
      · have hto' : (Ls[i].p.to_ == part) = false := by simpa using hto
        have HG := Lib.hid (show getP part (Ls[i].p, Ls[i].q) = -1 by unfold getP; rw [if_neg hto])
        clear hto
        go_wp2_with (at_builtin; refine append_elem rfl (.tmp 30) (.tmp 31) 49 rfl w.heap.size 3 _ 1 8 Try.underlying49 infoInt rfl (by decide) u5 _ _ rfl HR3.out (intCell (-1)) _ rfl rfl rfl rfl (by omega) (by omega) HB3.out.size ?_)
        intro v2 w4 hown hbel hg
        have HN := Lib.hid (show IntRow w4 w.heap.size v2 (getsS ((Ls.map Ln.st).take (i + 1)) part) by rw [HSN.out, HG.out]; exact IntRow.snoc rfl hown)
        have HB4 := Lib.hid (HB3.out.trans hbel)
        obtain ⟨va, vc, rfl⟩ := own_shape hown
        clear hown hbel hg
        go_wp2_with fail
        go_roundw
        case rel => exact ⟨i + 1, by omega, by go_num, HN, HB4⟩
        case measure => simp [intOf]; omega
    · obtain rfl : i = Ls.length := by omega
      rw [show (Ls.map Ln.st).take Ls.length = Ls.map Ln.st by rw [← List.length_map (f := Ln.st)]; exact List.take_length] at HR
      obtain ⟨va, vc, rfl⟩ := own_shape HR.out
      go_wp2_with fail
      go_ret
      exact ⟨_, rfl, HR.out, HB.out⟩
def outTo (S : PSt) (part : Int) : Nat → Int
  | 0 => 0
  | k + 1 => if (S.getD k p0).1.from_ = part then bits .or .i64 (outTo S part k) (wrap64 (2 ^ k)) else outTo S part k
def outsS (S : PSt) (part : Int) : Int := outTo S part S.length
set_option maxRecDepth 100000 in
set_option maxHeartbeats 8000000 in
theorem ports_outs (pb lo hi : Nat) (S : PSt) (part : Int) (w : World) (h : PortsIs w pb lo hi S) (hn : S.length ≤ 8) :
    Calls Try.prog 19 #[.pointer (some ⟨pb, 0, none⟩), .int .i64 part] w fun e w' => e = .returned (.int .i64 (outsS S part)) ∧ Below w.heap.size w w' := by
  obtain ⟨Ls, h, rfl⟩ := h
  rw [List.length_map] at hn
  obtain ⟨la, lc, hcell, hline⟩ := h.line
  have y0 := BlockIs.of hcell 0 _ rfl
  have HL := Lib.hid hline
  clear h hline hcell
  go_enter Try.func19, Try.ntmps19
  go_wp2_with fail
  go_loopw [5, 15] (fun r a wr => ∃ i : Nat, i ≤ Ls.length ∧ a = .int .i64 i ∧ (∃ o : Int, r = .int .i64 o ∧ Hid (o = outTo (Ls.map Ln.st) part i)) ∧ Hid (Below w.heap.size w wr)) (fun _ a _ => Ls.length - (intOf a).toNat)
  case atStart => exact ⟨0, by omega, rfl, ⟨0, rfl, Lib.hid rfl⟩, Lib.hid (Below.refl _ _)⟩
  case round =>
    obtain ⟨i, hi', rfl, ⟨o, rfl, HO⟩, HB⟩ := hrel
    by_cases hlt : i < Ls.length
    · obtain ⟨lb, rfl, hc⟩ := HL.out i hlt
      have z0 := Ext.below HB.out _ _ (hc 0 _ rfl)
      have z1 := Ext.below HB.out _ _ (hc 1 _ rfl)
      have z2 := Ext.below HB.out _ _ (hc 2 _ rfl)
      have z3 := Ext.below HB.out _ _ (hc 3 _ rfl)
      have z4 := Ext.below HB.out _ _ (hc 4 _ rfl)
      simp only [Nat.add_zero] at z0
      obtain ⟨cv, hcv⟩ : ∃ cv, cv = Ls[i].c.val := ⟨_, rfl⟩
      rw [← hcv] at z4
      obtain ⟨ct, cu, rfl⟩ := car_iface hcv
      have hget : (Ls.map Ln.st).getD i p0 = (Ls[i].p, Ls[i].q) := by rw [List.getD_eq_getElem?_getD, List.getElem?_map, List.getElem?_eq_getElem hlt]; rfl
      have hb := balloc wr (.cells #[.int .i64 Ls[i].p.kind, .int .i64 Ls[i].p.from_, .int .i64 Ls[i].p.to_, .int .i64 Ls[i].p.size, .iface ct cu] 80)
      have HB2 := Lib.hid (bthen HB.out hb)
      clear hc hcv hb
      by_cases hto : Ls[i].p.from_ = part
      · have hto' : (Ls[i].p.from_ == part) = true := by simpa using hto
        have HN := Lib.hid (show bits BinOp.or IntKind.i64 o (wrap64 (2 ^ i)) = outTo (Ls.map Ln.st) part (i + 1) by unfold outTo; rw [hget, if_pos hto, HO.out])
        clear hto hget
        go_wp2_with fail
        go_roundw
        case rel => exact ⟨i + 1, by omega, by go_num, ⟨_, rfl, HN⟩, HB2⟩
        case measure => simp [intOf]; omega
      · have hto' : (Ls[i].p.from_ == part) = false := by simpa using hto
        have HN := Lib.hid (show o = outTo (Ls.map Ln.st) part (i + 1) by unfold outTo; rw [hget, if_neg hto, HO.out])
        clear hto hget
        go_wp2_with fail
        go_roundw
        case rel => exact ⟨i + 1, by omega, by go_num, ⟨_, rfl, HN⟩, HB2⟩
        case measure => simp [intOf]; omega
    · obtain rfl : i = Ls.length := by omega
      go_wp2_with fail
      go_ret
      exact ⟨by rw [show outsS (Ls.map Ln.st) part = o by unfold outsS; rw [List.length_map, HO.out]]; rfl, HB.out⟩
end Go.Proofs.Ytkjjfidbmkpljaa
