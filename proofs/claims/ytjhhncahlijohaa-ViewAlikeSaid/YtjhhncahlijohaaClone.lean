/- slices.Clone. -/
import Derived.Test.YtjhhncahlijohaaFlat
set_option linter.unusedVariables false
set_option linter.unusedSimpArgs false
namespace Go.Proofs.Ytjhhncahlijohaa
open Go.RowKit

theorem cinfoPart : (Try.prog.info? 52).map (fun i => (i.zero, i.size, i.bytes)) = some (some (.agg #[.int .i64 0, .slice none 0 0, .slice none 0 0]), 3, 56) := by kernel_rfl
set_option maxRecDepth 100000 in
set_option maxHeartbeats 400000 in
theorem clonePart_raw (v : Value) (n : Nat) (w : World) (a : Option Addr) (cap : Nat) (news : List Value) (hv : v = .slice a n cap) (hsrc : Src w v n news) (hl : news.length = n * 3) (h1 : ∀ u ∈ news, u.oneCell' = true) (h2 : n * 56 ≤ 140737488351232) (h3 : n ≤ cap) (h4 : cap ≤ maxLen) :
    Calls Try.prog 46 #[v] w fun e w' => ∃ v', e = .returned v' ∧ w'.ownsRow w.heap.size 52 3 v' n news ∧ Below w.heap.size w w' := by
  subst hv
  have hrun := fun W => Lib.run_eql_slice_nil (P := Try.prog) W 22 52 a n cap 0 0 Try.underlying22
  rcases a with _ | ad
  · have hn : n = 0 ∧ news = [] := by
      rcases hsrc with ⟨c, -, h, h'⟩ | ⟨ad, c, h, -⟩
      · exact ⟨h, h'⟩
      · injection h with h; cases h
    obtain ⟨rfl, rfl⟩ := hn
    clear hsrc
    go_enter Try.func46, Try.ntmps46
    go_wp2_with fail
    go_ret
    exact ⟨_, rfl, World.ownsRow_nil _ _ _ _, Below.refl _ _⟩
  · have hsrc2 : Src (w.alloc (.cells #[] 52)) (.slice (some ad) n cap) n news := by
      rcases hsrc with ⟨c, h, -⟩ | ⟨ad', c, h, hc⟩
      · injection h with h; cases h
      · injection h with h h' h''
        injection h with h
        subst h; subst h''
        exact .inr ⟨_, _, rfl, fun j u hu => Ext.alloc _ _ _ _ (hc j u hu)⟩
    have HS := Lib.hid hsrc2
    clear hsrc hsrc2
    have HL := Lib.hid (And.intro hl h1)
    clear hl h1
    go_enter Try.func46, Try.ntmps46
    go_wp2_with (at_builtin; refine wpList_onto _ rfl (.tmp 5) (.tmp 6) 22 rfl w.heap.size 52 _ 3 56 Try.underlying22 cinfoPart rfl (by decide) _ 0 [] rfl (own_lit w _ _) n news HS.out HL.out.1 HL.out.2 (by simp only [maxLen] at h4 ⊢; omega) (by omega) (by simp) ?_)
    intro v' w' hown hg
    have hown' : w'.ownsRow w.heap.size 52 3 v' n news := by simpa using hown
    have hb : Below w.heap.size w w' := (balloc w (.cells #[] 52)).grown hg (by simp) (fun k hk => by simp [Value.ownBlock] at hk; omega)
    have HB := Lib.hid (And.intro hown' hb)
    obtain ⟨a', c', rfl⟩ := own_shape hown'
    clear hown hown' hb hg
    go_wp2_with fail
    go_ret
    exact ⟨_, rfl, HB.out.1, HB.out.2⟩
theorem cinfoTask : (Try.prog.info? 48).map (fun i => (i.zero, i.size, i.bytes)) = some (some (.agg #[.int .i64 0, .int .i64 0, .int .i64 0, .int .i64 0, .int .i64 0, .int .i64 0]), 6, 48) := by kernel_rfl
set_option maxRecDepth 100000 in
set_option maxHeartbeats 400000 in
theorem cloneTask_raw (v : Value) (n : Nat) (w : World) (a : Option Addr) (cap : Nat) (news : List Value) (hv : v = .slice a n cap) (hsrc : Src w v n news) (hl : news.length = n * 6) (h1 : ∀ u ∈ news, u.oneCell' = true) (h2 : n * 48 ≤ 140737488351232) (h3 : n ≤ cap) (h4 : cap ≤ maxLen) :
    Calls Try.prog 47 #[v] w fun e w' => ∃ v', e = .returned v' ∧ w'.ownsRow w.heap.size 48 6 v' n news ∧ Below w.heap.size w w' := by
  subst hv
  have hrun := fun W => Lib.run_eql_slice_nil (P := Try.prog) W 49 48 a n cap 0 0 Try.underlying49
  rcases a with _ | ad
  · have hn : n = 0 ∧ news = [] := by
      rcases hsrc with ⟨c, -, h, h'⟩ | ⟨ad, c, h, -⟩
      · exact ⟨h, h'⟩
      · injection h with h; cases h
    obtain ⟨rfl, rfl⟩ := hn
    clear hsrc
    go_enter Try.func47, Try.ntmps47
    go_wp2_with fail
    go_ret
    exact ⟨_, rfl, World.ownsRow_nil _ _ _ _, Below.refl _ _⟩
  · have hsrc2 : Src (w.alloc (.cells #[] 48)) (.slice (some ad) n cap) n news := by
      rcases hsrc with ⟨c, h, -⟩ | ⟨ad', c, h, hc⟩
      · injection h with h; cases h
      · injection h with h h' h''
        injection h with h
        subst h; subst h''
        exact .inr ⟨_, _, rfl, fun j u hu => Ext.alloc _ _ _ _ (hc j u hu)⟩
    have HS := Lib.hid hsrc2
    clear hsrc hsrc2
    have HL := Lib.hid (And.intro hl h1)
    clear hl h1
    go_enter Try.func47, Try.ntmps47
    go_wp2_with (at_builtin; refine wpList_onto _ rfl (.tmp 5) (.tmp 6) 49 rfl w.heap.size 48 _ 6 48 Try.underlying49 cinfoTask rfl (by decide) _ 0 [] rfl (own_lit w _ _) n news HS.out HL.out.1 HL.out.2 (by simp only [maxLen] at h4 ⊢; omega) (by omega) (by simp) ?_)
    intro v' w' hown hg
    have hown' : w'.ownsRow w.heap.size 48 6 v' n news := by simpa using hown
    have hb : Below w.heap.size w w' := (balloc w (.cells #[] 48)).grown hg (by simp) (fun k hk => by simp [Value.ownBlock] at hk; omega)
    have HB := Lib.hid (And.intro hown' hb)
    obtain ⟨a', c', rfl⟩ := own_shape hown'
    clear hown hown' hb hg
    go_wp2_with fail
    go_ret
    exact ⟨_, rfl, HB.out.1, HB.out.2⟩
theorem cinfoInstr : (Try.prog.info? 54).map (fun i => (i.zero, i.size, i.bytes)) = some (some (.agg #[.int .i64 0, .int .i64 0]), 2, 16) := by kernel_rfl
set_option maxRecDepth 100000 in
set_option maxHeartbeats 400000 in
theorem cloneInstr_raw (v : Value) (n : Nat) (w : World) (a : Option Addr) (cap : Nat) (news : List Value) (hv : v = .slice a n cap) (hsrc : Src w v n news) (hl : news.length = n * 2) (h1 : ∀ u ∈ news, u.oneCell' = true) (h2 : n * 16 ≤ 140737488351232) (h3 : n ≤ cap) (h4 : cap ≤ maxLen) :
    Calls Try.prog 48 #[v] w fun e w' => ∃ v', e = .returned v' ∧ w'.ownsRow w.heap.size 54 2 v' n news ∧ Below w.heap.size w w' := by
  subst hv
  have hrun := fun W => Lib.run_eql_slice_nil (P := Try.prog) W 50 54 a n cap 0 0 Try.underlying50
  rcases a with _ | ad
  · have hn : n = 0 ∧ news = [] := by
      rcases hsrc with ⟨c, -, h, h'⟩ | ⟨ad, c, h, -⟩
      · exact ⟨h, h'⟩
      · injection h with h; cases h
    obtain ⟨rfl, rfl⟩ := hn
    clear hsrc
    go_enter Try.func48, Try.ntmps48
    go_wp2_with fail
    go_ret
    exact ⟨_, rfl, World.ownsRow_nil _ _ _ _, Below.refl _ _⟩
  · have hsrc2 : Src (w.alloc (.cells #[] 54)) (.slice (some ad) n cap) n news := by
      rcases hsrc with ⟨c, h, -⟩ | ⟨ad', c, h, hc⟩
      · injection h with h; cases h
      · injection h with h h' h''
        injection h with h
        subst h; subst h''
        exact .inr ⟨_, _, rfl, fun j u hu => Ext.alloc _ _ _ _ (hc j u hu)⟩
    have HS := Lib.hid hsrc2
    clear hsrc hsrc2
    have HL := Lib.hid (And.intro hl h1)
    clear hl h1
    go_enter Try.func48, Try.ntmps48
    go_wp2_with (at_builtin; refine wpList_onto _ rfl (.tmp 5) (.tmp 6) 50 rfl w.heap.size 54 _ 2 16 Try.underlying50 cinfoInstr rfl (by decide) _ 0 [] rfl (own_lit w _ _) n news HS.out HL.out.1 HL.out.2 (by simp only [maxLen] at h4 ⊢; omega) (by omega) (by simp) ?_)
    intro v' w' hown hg
    have hown' : w'.ownsRow w.heap.size 54 2 v' n news := by simpa using hown
    have hb : Below w.heap.size w w' := (balloc w (.cells #[] 54)).grown hg (by simp) (fun k hk => by simp [Value.ownBlock] at hk; omega)
    have HB := Lib.hid (And.intro hown' hb)
    obtain ⟨a', c', rfl⟩ := own_shape hown'
    clear hown hown' hb hg
    go_wp2_with fail
    go_ret
    exact ⟨_, rfl, HB.out.1, HB.out.2⟩
theorem cinfoWindow : (Try.prog.info? 44).map (fun i => (i.zero, i.size, i.bytes)) = some (some (.agg #[.int .i64 0, .int .i64 0, .int .i64 0]), 3, 24) := by kernel_rfl
set_option maxRecDepth 100000 in
set_option maxHeartbeats 400000 in
theorem cloneWindow_raw (v : Value) (n : Nat) (w : World) (a : Option Addr) (cap : Nat) (news : List Value) (hv : v = .slice a n cap) (hsrc : Src w v n news) (hl : news.length = n * 3) (h1 : ∀ u ∈ news, u.oneCell' = true) (h2 : n * 24 ≤ 140737488351232) (h3 : n ≤ cap) (h4 : cap ≤ maxLen) :
    Calls Try.prog 49 #[v] w fun e w' => ∃ v', e = .returned v' ∧ w'.ownsRow w.heap.size 44 3 v' n news ∧ Below w.heap.size w w' := by
  subst hv
  have hrun := fun W => Lib.run_eql_slice_nil (P := Try.prog) W 23 44 a n cap 0 0 Try.underlying23
  rcases a with _ | ad
  · have hn : n = 0 ∧ news = [] := by
      rcases hsrc with ⟨c, -, h, h'⟩ | ⟨ad, c, h, -⟩
      · exact ⟨h, h'⟩
      · injection h with h; cases h
    obtain ⟨rfl, rfl⟩ := hn
    clear hsrc
    go_enter Try.func49, Try.ntmps49
    go_wp2_with fail
    go_ret
    exact ⟨_, rfl, World.ownsRow_nil _ _ _ _, Below.refl _ _⟩
  · have hsrc2 : Src (w.alloc (.cells #[] 44)) (.slice (some ad) n cap) n news := by
      rcases hsrc with ⟨c, h, -⟩ | ⟨ad', c, h, hc⟩
      · injection h with h; cases h
      · injection h with h h' h''
        injection h with h
        subst h; subst h''
        exact .inr ⟨_, _, rfl, fun j u hu => Ext.alloc _ _ _ _ (hc j u hu)⟩
    have HS := Lib.hid hsrc2
    clear hsrc hsrc2
    have HL := Lib.hid (And.intro hl h1)
    clear hl h1
    go_enter Try.func49, Try.ntmps49
    go_wp2_with (at_builtin; refine wpList_onto _ rfl (.tmp 5) (.tmp 6) 23 rfl w.heap.size 44 _ 3 24 Try.underlying23 cinfoWindow rfl (by decide) _ 0 [] rfl (own_lit w _ _) n news HS.out HL.out.1 HL.out.2 (by simp only [maxLen] at h4 ⊢; omega) (by omega) (by simp) ?_)
    intro v' w' hown hg
    have hown' : w'.ownsRow w.heap.size 44 3 v' n news := by simpa using hown
    have hb : Below w.heap.size w w' := (balloc w (.cells #[] 44)).grown hg (by simp) (fun k hk => by simp [Value.ownBlock] at hk; omega)
    have HB := Lib.hid (And.intro hown' hb)
    obtain ⟨a', c', rfl⟩ := own_shape hown'
    clear hown hown' hb hg
    go_wp2_with fail
    go_ret
    exact ⟨_, rfl, HB.out.1, HB.out.2⟩
theorem cinfoPort : (Try.prog.info? 46).map (fun i => (i.zero, i.size, i.bytes)) = some (some (.agg #[.int .i64 0, .int .i64 0, .int .i64 0, .int .i64 0]), 4, 32) := by kernel_rfl
set_option maxRecDepth 100000 in
set_option maxHeartbeats 400000 in
theorem clonePort_raw (v : Value) (n : Nat) (w : World) (a : Option Addr) (cap : Nat) (news : List Value) (hv : v = .slice a n cap) (hsrc : Src w v n news) (hl : news.length = n * 4) (h1 : ∀ u ∈ news, u.oneCell' = true) (h2 : n * 32 ≤ 140737488351232) (h3 : n ≤ cap) (h4 : cap ≤ maxLen) :
    Calls Try.prog 50 #[v] w fun e w' => ∃ v', e = .returned v' ∧ w'.ownsRow w.heap.size 46 4 v' n news ∧ Below w.heap.size w w' := by
  subst hv
  have hrun := fun W => Lib.run_eql_slice_nil (P := Try.prog) W 24 46 a n cap 0 0 Try.underlying24
  rcases a with _ | ad
  · have hn : n = 0 ∧ news = [] := by
      rcases hsrc with ⟨c, -, h, h'⟩ | ⟨ad, c, h, -⟩
      · exact ⟨h, h'⟩
      · injection h with h; cases h
    obtain ⟨rfl, rfl⟩ := hn
    clear hsrc
    go_enter Try.func50, Try.ntmps50
    go_wp2_with fail
    go_ret
    exact ⟨_, rfl, World.ownsRow_nil _ _ _ _, Below.refl _ _⟩
  · have hsrc2 : Src (w.alloc (.cells #[] 46)) (.slice (some ad) n cap) n news := by
      rcases hsrc with ⟨c, h, -⟩ | ⟨ad', c, h, hc⟩
      · injection h with h; cases h
      · injection h with h h' h''
        injection h with h
        subst h; subst h''
        exact .inr ⟨_, _, rfl, fun j u hu => Ext.alloc _ _ _ _ (hc j u hu)⟩
    have HS := Lib.hid hsrc2
    clear hsrc hsrc2
    have HL := Lib.hid (And.intro hl h1)
    clear hl h1
    go_enter Try.func50, Try.ntmps50
    go_wp2_with (at_builtin; refine wpList_onto _ rfl (.tmp 5) (.tmp 6) 24 rfl w.heap.size 46 _ 4 32 Try.underlying24 cinfoPort rfl (by decide) _ 0 [] rfl (own_lit w _ _) n news HS.out HL.out.1 HL.out.2 (by simp only [maxLen] at h4 ⊢; omega) (by omega) (by simp) ?_)
    intro v' w' hown hg
    have hown' : w'.ownsRow w.heap.size 46 4 v' n news := by simpa using hown
    have hb : Below w.heap.size w w' := (balloc w (.cells #[] 46)).grown hg (by simp) (fun k hk => by simp [Value.ownBlock] at hk; omega)
    have HB := Lib.hid (And.intro hown' hb)
    obtain ⟨a', c', rfl⟩ := own_shape hown'
    clear hown hown' hb hg
    go_wp2_with fail
    go_ret
    exact ⟨_, rfl, HB.out.1, HB.out.2⟩
theorem cloneTask_any (v : Value) (xs : List Task) (w : World) (hv : TasksV w v xs) :
    Calls Try.prog 47 #[v] w fun e w' => ∃ v', e = .returned v' ∧ w'.ownsRow w.heap.size 48 6 v' xs.length (xs.flatMap taskCells) ∧ Below w.heap.size w w' := by
  have hs := flatTask.src hv
  obtain ⟨a, cap, hv1, h2, h3, h4, -⟩ := hv
  exact cloneTask_raw v xs.length w a cap _ hv1 hs (flat_len _ _ flatTask.len xs) (flat_one flatTask xs) h2 h3 h4
theorem cloneInstr_any (v : Value) (xs : List Instr) (w : World) (hv : CodeV w v xs) :
    Calls Try.prog 48 #[v] w fun e w' => ∃ v', e = .returned v' ∧ w'.ownsRow w.heap.size 54 2 v' xs.length (xs.flatMap instrCells) ∧ Below w.heap.size w w' := by
  have hs := flatInstr.src hv
  obtain ⟨a, cap, hv1, h2, h3, h4, -⟩ := hv
  exact cloneInstr_raw v xs.length w a cap _ hv1 hs (flat_len _ _ flatInstr.len xs) (flat_one flatInstr xs) h2 h3 h4
theorem cloneWindow_any (v : Value) (xs : List Window) (w : World) (hv : WindowsV w v xs) :
    Calls Try.prog 49 #[v] w fun e w' => ∃ v', e = .returned v' ∧ w'.ownsRow w.heap.size 44 3 v' xs.length (xs.flatMap windowCells) ∧ Below w.heap.size w w' := by
  have hs := flatWindow.src hv
  obtain ⟨a, cap, hv1, h2, h3, h4, -⟩ := hv
  exact cloneWindow_raw v xs.length w a cap _ hv1 hs (flat_len _ _ flatWindow.len xs) (flat_one flatWindow xs) h2 h3 h4
theorem clonePort_any (v : Value) (xs : List Port) (w : World) (hv : PortsV w v xs) :
    Calls Try.prog 50 #[v] w fun e w' => ∃ v', e = .returned v' ∧ w'.ownsRow w.heap.size 46 4 v' xs.length (xs.flatMap portCells) ∧ Below w.heap.size w w' := by
  have hs := flatPort.src hv
  obtain ⟨a, cap, hv1, h2, h3, h4, -⟩ := hv
  exact clonePort_raw v xs.length w a cap _ hv1 hs (flat_len _ _ flatPort.len xs) (flat_one flatPort xs) h2 h3 h4
theorem own_set {W : World} {B : Nat} {e : TypeId} {size n cap g : Nat} {xs : List Value} (h : W.ownsRow B e size (.slice (some ⟨g, 0, none⟩) n cap) n xs) (j : Nat) (u : Value) : (W.setCell ⟨g, j, none⟩ u).ownsRow B e size (.slice (some ⟨g, 0, none⟩) n cap) n (xs.set j u) := by
  refine ⟨by rw [List.length_set]; exact h.1, ?_⟩
  rcases h.2 with ⟨h1, -⟩ | ⟨g', cap', cur, h1, h2, h3, h4, h5, h6, h7⟩
  · cases h1
  · injection h1 with h1 _ h1'
    injection h1 with h1
    injection h1 with h1
    subst h1; subst h1'
    refine .inr ⟨g, cap, cur.setIfInBounds j u, rfl, h2, blk_set h3 j u, h4, h5, by simpa using h6, ?_⟩
    rw [Array.toList_setIfInBounds, List.take_set, h7]
end Go.Proofs.Ytjhhncahlijohaa
