/- The law SupplyOne: of one window a frame the least of a stretch is what the gap leaves. -/
import Derived.Test.YtonekkfnoncceaaLeast
set_option linter.unusedVariables false
set_option linter.unusedSimpArgs false
namespace Go.Proofs.Ytonekkfnoncceaa
open Go.RowKit

/-- A configuration of one high part and one window. -/
def oneCfg (F a s : Nat) : Config := ⟨F, 1, [⟨1, [], []⟩], [⟨a, a + s, 0⟩], []⟩
theorem oneCfg_ok (F a s : Nat) (h1 : 1 ≤ F) (h2 : F ≤ 256) (h3 : 0 < s) (h4 : a + s ≤ F) : checkCfg (oneCfg F a s) = 0 := by
  unfold checkCfg oneCfg
  simp only
  rw [if_neg (by omega), if_neg (by simp [levelMay]), if_neg (by simp [tasksMay, tasksFrom]), if_neg, if_neg (by simp), if_neg (by simp [codeMay])]
  simp [windowsMay, winsFrom]
  omega
theorem one_owner (a s F t : Nat) (hF : 0 < F) : (ownerAt ((t : Int) % (F : Int)) [⟨(a : Int), (a : Int) + (s : Int), 0⟩] = 0) ↔ (a ≤ t % F ∧ t % F < a + s) := by
  have e : (t : Int) % (F : Int) = ((t % F : Nat) : Int) := rfl
  obtain ⟨m, hm⟩ : ∃ m, t % F = m := ⟨_, rfl⟩
  rw [e, hm]
  show (if (a : Int) ≤ m ∧ (m : Int) < (a : Int) + (s : Int) then (0 : Int) else -1) = 0 ↔ _
  by_cases h : a ≤ m ∧ m < a + s
  · rw [if_pos (by omega)]; exact ⟨fun _ => h, fun _ => rfl⟩
  · rw [if_neg (by omega)]
    exact ⟨fun h' => absurd h' (by decide), fun h' => absurd h' h⟩
theorem one_step (F a s n : Nat) (hF : 0 < F) : cnt (oneCfg F a s) 0 (n + 1) = cnt (oneCfg F a s) 0 n + if a ≤ n % F ∧ n % F < a + s then 1 else 0 := by
  rw [cnt_step]
  have := one_owner a s F n hF
  show cnt (oneCfg F a s) 0 n + (if ownerAt ((n : Int) % (F : Int)) [⟨(a : Int), (a : Int) + (s : Int), 0⟩] = 0 then 1 else 0) = _
  by_cases h : a ≤ n % F ∧ n % F < a + s
  · rw [if_pos h, if_pos (this.2 h)]
  · rw [if_neg h, if_neg (fun h' => h (this.1 h'))]
theorem one_frame (F a s n : Nat) (hF : 0 < F) (h4 : a + s ≤ F) (hn : n ≤ F) : cnt (oneCfg F a s) 0 n = if n ≤ a then 0 else if n ≤ a + s then (n : Int) - a else s := by
  induction n with
  | zero => simp [cnt]
  | succ n ih =>
    rw [one_step _ _ _ _ hF, ih (by omega), Nat.mod_eq_of_lt (by omega)]
    (repeat' split) <;> omega
theorem one_gap (F a s t0 : Nat) (hF : 0 < F) (h3 : 0 < s) (h4 : a + s ≤ F) (ht : t0 = if a + s = F then 0 else a + s) (j : Nat) (hj : j ≤ F - s) : cnt (oneCfg F a s) 0 (t0 + j) = cnt (oneCfg F a s) 0 t0 := by
  induction j with
  | zero => rfl
  | succ j ih =>
    rw [← Nat.add_assoc, one_step _ _ _ _ hF, ih (by omega), if_neg]
    · omega
    · by_cases e : a + s = F
      · rw [if_pos e] at ht
        subst ht
        rw [Nat.zero_add, Nat.mod_eq_of_lt (by omega)]
        omega
      · rw [if_neg e] at ht
        subst ht
        by_cases e2 : a + s + j < F
        · rw [Nat.mod_eq_of_lt e2]; omega
        · rw [Nat.mod_eq_sub_mod (by omega), Nat.mod_eq_of_lt (by omega)]; omega
theorem one_least (F a s k : Nat) (hF : 0 < F) (h3 : 0 < s) (h4 : a + s ≤ F) (hk : k ≤ F) : leastN (oneCfg F a s) 0 k = max 0 ((k : Int) - ((F : Int) - s)) := by
  have hc : (oneCfg F a s).frame = (F : Int) := rfl
  have hS : cnt (oneCfg F a s) 0 F = s := by
    rw [one_frame F a s F hF h4 (Nat.le_refl _)]
    (repeat' split) <;> omega
  have hlo : ∀ t, (k : Int) - ((F : Int) - s) ≤ cnt (oneCfg F a s) 0 (t + k) - cnt (oneCfg F a s) 0 t := by
    intro t
    have h1 := cnt_slow (oneCfg F a s) 0 (t + k) (F - k)
    rw [show t + k + (F - k) = t + F by omega, cnt_period _ _ F hc, hS] at h1
    omega
  obtain ⟨q, hq, e⟩ := leastN_get (oneCfg F a s) 0 F hc hF k
  have h0 := leastN_nonneg (oneCfg F a s) 0 k
  have h1 := hlo q
  obtain ⟨t0, ht⟩ : ∃ t0, t0 = if a + s = F then 0 else a + s := ⟨_, rfl⟩
  have h2 := leastN_le_at (oneCfg F a s) 0 F hc hF k t0
  by_cases hkg : k ≤ F - s
  · rw [one_gap F a s t0 hF h3 h4 ht k hkg] at h2
    omega
  · have h5 := cnt_slow (oneCfg F a s) 0 (t0 + (F - s)) (k - (F - s))
    rw [one_gap F a s t0 hF h3 h4 ht (F - s) (Nat.le_refl _), show t0 + (F - s) + (k - (F - s)) = t0 + k by omega] at h5
    omega

theorem one_at {W : World} {b1 b2 : Nat} (F a s : Nat) (h1 : BlockIs W b1 #[.int .i64 1, .slice none 0 0, .slice none 0 0]) (h2 : BlockIs W b2 #[.int .i64 a, .int .i64 ((a : Int) + s), .int .i64 0]) :
    CfgV W (.agg #[.int .i64 F, .int .i64 1, .slice (some ⟨b1, 0, none⟩) 1 1, .slice (some ⟨b2, 0, none⟩) 1 1, .slice none 0 0]) (oneCfg F a s) := by
  have p1 : PartAt W b1 0 ⟨1, [], []⟩ := ⟨h1 0 _ rfl, _, _, h1 1 _ rfl, h1 2 _ rfl, ⟨slice0 _ _ _ _, slice0 _ _ _ _⟩⟩
  have w1 : WindowAt W b2 0 ⟨a, (a : Int) + s, 0⟩ := ⟨h2 0 _ rfl, h2 1 _ rfl, h2 2 _ rfl⟩
  exact ⟨_, _, _, rfl, ⟨slice1 (by decide) p1, slice1 (by decide) w1, slice0 _ _ _ _⟩⟩
set_option maxRecDepth 100000 in
set_option maxHeartbeats 1600000 in
theorem supplyOne_any (fr fo si le : Int) (w : World) :
    Calls Try.prog 7 #[.int .i64 fr, .int .i64 fo, .int .i64 si, .int .i64 le] w fun e w' => e = .returned (.bool true) ∧ Below w.heap.size w w' := by
  obtain ⟨x, hx⟩ := Int.eq_ofNat_of_zero_le (show 0 ≤ bits BinOp.and IntKind.i64 fr 127 by rw [i64_and127]; omega)
  have hx8 : x ≤ 127 := by have := i64_and127 fr; omega
  have hu : ∀ z : Int, 0 ≤ IntKind.u64.wrap z := fun z => by rw [IntKind.wrap_u64]; omega
  have hmod : ∀ (z : Int) (n : Nat), 0 < n → ∃ m : Nat, (IntKind.u64.wrap z).tmod (n : Int) = (m : Int) ∧ m < n := by
    intro z n hn
    obtain ⟨q, hq⟩ := Int.eq_ofNat_of_zero_le (hu z)
    rw [hq]
    exact ⟨q % n, by rw [Int.tmod_eq_emod_of_nonneg (by omega)]; rfl, Nat.mod_lt _ hn⟩
  obtain ⟨s0, hs0, hs1⟩ := hmod si (2 + x) (by omega)
  obtain ⟨k, hk0, hk1⟩ := hmod le (2 + x + 1) (by omega)
  have ht : 0 < 2 + x - (1 + s0) + 1 := by omega
  obtain ⟨a, ha0, ha1⟩ := hmod fo (2 + x - (1 + s0) + 1) ht
  have c1 : ((2 + x : Nat) : Int) = 2 + (x : Int) := by omega
  have c2 : ((2 + x + 1 : Nat) : Int) = 2 + (x : Int) + 1 := by omega
  have c3 : ((2 + x - (1 + s0) + 1 : Nat) : Int) = 2 + (x : Int) - (1 + (s0 : Int)) + 1 := by omega
  rw [c1] at hs0
  rw [c2] at hk0
  rw [c3] at ha0
  clear c1 c2 c3 hmod hu
  go_enter Try.func7, Try.ntmps7
  go_wp2_with fail
  refine (awake7_any _).mono ?_
  rintro e w1 ⟨rfl, hb1⟩
  have c1 : (2 + (x : Int)) = ((2 + x : Nat) : Int) := by omega
  have c4 : (1 + (s0 : Int)) = ((1 + s0 : Nat) : Int) := by omega
  have C1 := Lib.hid c1
  have C4 := Lib.hid c4
  have ok := oneCfg_ok (2 + x) a (1 + s0) (by omega) (by omega) (by omega) (by omega)
  have LS := leastSpec_ok (oneCfg (2 + x) a (1 + s0)) 0 k ok (by decide) (by simp [oneCfg]) (by omega)
  rw [one_least (2 + x) a (1 + s0) k (by omega) (by omega) (by omega) (by omega)] at LS
  have HLS := Lib.hid LS
  have HB1 := Lib.hid hb1
  clear c1 c4 ok LS hb1
  go_wp2_with fail
  refine (least_any (oneCfg (2 + x) a (1 + s0)) _ 0 k _ ?_).mono ?_
  · rw [C1.out, C4.out]
    refine one_at (2 + x) a (1 + s0) (BlockIs.of (t := 46) (fr := (0, 0)) ?_) (BlockIs.of (t := 41) (fr := (0, 0)) ?_)
    all_goals (simp only [heap_push, Array.getElem?_push, Array.size_push]; (try simp); (try omega))
  · rw [HLS.out]
    rintro e w2 ⟨rfl, hb2⟩
    have HB2 := Lib.hid (bthen HB1.out (bthen (balloc _ _) (bthen (balloc _ _) (bthen (balloc _ _) hb2))))
    have m1 : max 0 ((k : Int) - (((2 + x : Nat) : Int) - ((1 + s0 : Nat) : Int))) = max 0 ((k : Int) - (2 + (x : Int) - (1 + (s0 : Int)))) := by
      rw [C1.out, C4.out]
    rw [m1]
    clear hb2 m1
    go_wp2_with (first | (go_at_call 12; refine (num_any _ _).mono ?_; rintro e w' ⟨rfl, rfl⟩) | fail)
    all_goals
      go_ret
      exact ⟨ret_bool (by simp; omega), HB2.out⟩
end Go.Proofs.Ytonekkfnoncceaa
