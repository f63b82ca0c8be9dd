/-
  Copies and comparisons of slices.
-/
import Derived.Test.YtkjibnhihdbmdaaDoorOwnsG
import Derived.Test.YtkjibnhihdbmdaaDoorB2
import Derived.Test.YtkjibnhihdbmdaaDoorProg
import Derived.Lib.SliceRun
set_option linter.unusedVariables false
set_option linter.unusedSimpArgs false
namespace Go.Proofs.YtkjibnhihdbmdaaDoor
open Go.RowKit
theorem ow_len {w : World} {base : Nat} {e : TypeId} {A : Option Addr} {n c : Nat} {xs : List Value} (h : Ow w base e (.slice A n c) xs) : xs.length = n := by
  obtain ⟨A', c', h1, _⟩ := h.form
  injection h1 with _ h2 _
  exact h2.symm
theorem ow_formL {w : World} {base : Nat} {e : TypeId} {v : Value} {xs : List Value} (h : Ow w base e v xs) (n : Nat) (hn : xs.length = n) : ∃ A c, v = .slice A n c ∧ n ≤ c ∧ Rd w w.heap.size A n xs := by
  subst hn
  obtain ⟨A, c, h1, h2, _, h3⟩ := h.form
  exact ⟨A, c, h1, h2, h3⟩
theorem Tryd.clInfoByte : (Tryd.prog.info? 5).map (fun i => (i.zero, i.size, i.bytes)) = some (some (.int .u8 0), 1, 1) := by kernel_rfl
theorem Tryd.clInfoStr : (Tryd.prog.info? 9).map (fun i => (i.zero, i.size, i.bytes)) = some (some (.string ⟨#[]⟩), 1, 16) := by kernel_rfl
theorem Tryd.clInfoInt : (Tryd.prog.info? 3).map (fun i => (i.zero, i.size, i.bytes)) = some (some (.int .i64 0), 1, 8) := by kernel_rfl
set_option maxRecDepth 100000 in
set_option maxHeartbeats 400000 in
theorem cl_b (A : Option Addr) (c L : Nat) (l : List UInt8) (w : World) (hL : l.length = L) (h : Rd w w.heap.size A L (bc l)) (hl : L * 1 ≤ 140737488355328) :
    Calls Tryd.prog 18 #[.slice A L c] w fun e w' => ∃ v, e = .returned v ∧ Ow w' w.heap.size 5 v (bc l) ∧ Below w.heap.size w w' := by
  obtain ⟨i0, hi, hz0, hz1, hz2⟩ := info_parts Tryd.clInfoByte
  have q22 : ∀ (w : World) (a : Option Addr) (n c n' c' : Nat), (binOp .eql 22 (.slice a n c) (.slice none n' c')).run Tryd.prog w = .ok (.bool a.isNone) w := fun w a n c n' c' => Lib.run_eql_slice_nil w _ _ a n c n' c' Tryd.underlying22
  subst hL
  cases A with
  | none =>
    have hl0 : l = [] := by
      rcases Nat.eq_zero_or_pos l.length with h0 | h0
      · exact List.eq_nil_of_length_eq_zero h0
      · obtain ⟨b, o, h1, _⟩ := h.2 h0; cases h1
    subst hl0
    go_enter Tryd.func18, Tryd.ntmps18
    go_wp2
    go_ret
    exact ⟨_, rfl, Ow.nil _ _ _, Below.refl _ _⟩
  | some a =>
    go_enter Tryd.func18, Tryd.ntmps18
    go_wp2_with (at_builtin; refine wpList_app _ rfl _ _ _ _ rfl w.heap.size 5 i0 (.int .u8 0) 1 Tryd.underlying22 hi hz0 hz1 hz2 rfl (by omega) _ _ (Ow.made w 5 #[] 0 (by simp [maxLen]) rfl) rfl l.length (bc l) ((h.alloc (Nat.le_refl _) _).src Tryd.underlying22 (bc_one l)) (by simp <;> omega) (by simp) ?_; intro v3 w3 hown3 hgr3 hsz3)
    go_ret
    exact ⟨_, rfl, by simpa using hown3, ((Below.refl w.heap.size w).alloc (Nat.le_refl _) _).trans (hgr3.below (by simp [Value.ownBlock]) (by simp))⟩
set_option maxRecDepth 100000 in
set_option maxHeartbeats 400000 in
theorem cl_b2 (A : Option Addr) (c L : Nat) (l : List UInt8) (w : World) (hL : l.length = L) (h : Rd w w.heap.size A L (bc l)) (hl : L * 1 ≤ 140737488355328) :
    Calls Tryd.prog 47 #[.slice A L c] w fun e w' => ∃ v, e = .returned v ∧ Ow w' w.heap.size 5 v (bc l) ∧ Below w.heap.size w w' := by
  obtain ⟨i0, hi, hz0, hz1, hz2⟩ := info_parts Tryd.clInfoByte
  have q22 : ∀ (w : World) (a : Option Addr) (n c n' c' : Nat), (binOp .eql 22 (.slice a n c) (.slice none n' c')).run Tryd.prog w = .ok (.bool a.isNone) w := fun w a n c n' c' => Lib.run_eql_slice_nil w _ _ a n c n' c' Tryd.underlying22
  subst hL
  cases A with
  | none =>
    have hl0 : l = [] := by
      rcases Nat.eq_zero_or_pos l.length with h0 | h0
      · exact List.eq_nil_of_length_eq_zero h0
      · obtain ⟨b, o, h1, _⟩ := h.2 h0; cases h1
    subst hl0
    go_enter Tryd.func47, Tryd.ntmps47
    go_wp2
    go_ret
    exact ⟨_, rfl, Ow.nil _ _ _, Below.refl _ _⟩
  | some a =>
    go_enter Tryd.func47, Tryd.ntmps47
    go_wp2_with (at_builtin; refine wpList_app _ rfl _ _ _ _ rfl w.heap.size 5 i0 (.int .u8 0) 1 Tryd.underlying22 hi hz0 hz1 hz2 rfl (by omega) _ _ (Ow.made w 5 #[] 0 (by simp [maxLen]) rfl) rfl l.length (bc l) ((h.alloc (Nat.le_refl _) _).src Tryd.underlying22 (bc_one l)) (by simp <;> omega) (by simp) ?_; intro v3 w3 hown3 hgr3 hsz3)
    go_ret
    exact ⟨_, rfl, by simpa using hown3, ((Below.refl w.heap.size w).alloc (Nat.le_refl _) _).trans (hgr3.below (by simp [Value.ownBlock]) (by simp))⟩
set_option maxRecDepth 100000 in
set_option maxHeartbeats 400000 in
theorem cl_s (A : Option Addr) (c L : Nat) (l : List (List UInt8)) (w : World) (hL : l.length = L) (h : Rd w w.heap.size A L (sc l)) (hl : L * 16 ≤ 140737488355328) :
    Calls Tryd.prog 48 #[.slice A L c] w fun e w' => ∃ v, e = .returned v ∧ Ow w' w.heap.size 9 v (sc l) ∧ Below w.heap.size w w' := by
  obtain ⟨i0, hi, hz0, hz1, hz2⟩ := info_parts Tryd.clInfoStr
  have q22 : ∀ (w : World) (a : Option Addr) (n c n' c' : Nat), (binOp .eql 49 (.slice a n c) (.slice none n' c')).run Tryd.prog w = .ok (.bool a.isNone) w := fun w a n c n' c' => Lib.run_eql_slice_nil w _ _ a n c n' c' Tryd.underlying49
  subst hL
  cases A with
  | none =>
    have hl0 : l = [] := by
      rcases Nat.eq_zero_or_pos l.length with h0 | h0
      · exact List.eq_nil_of_length_eq_zero h0
      · obtain ⟨b, o, h1, _⟩ := h.2 h0; cases h1
    subst hl0
    go_enter Tryd.func48, Tryd.ntmps48
    go_wp2
    go_ret
    exact ⟨_, rfl, Ow.nil _ _ _, Below.refl _ _⟩
  | some a =>
    go_enter Tryd.func48, Tryd.ntmps48
    go_wp2_with (at_builtin; refine wpList_app _ rfl _ _ _ _ rfl w.heap.size 9 i0 (.string ⟨#[]⟩) 16 Tryd.underlying49 hi hz0 hz1 hz2 rfl (by omega) _ _ (Ow.made w 9 #[] 0 (by simp [maxLen]) rfl) rfl l.length (sc l) ((h.alloc (Nat.le_refl _) _).src Tryd.underlying49 (sc_one l)) (by simp <;> omega) (by simp) ?_; intro v3 w3 hown3 hgr3 hsz3)
    go_ret
    exact ⟨_, rfl, by simpa using hown3, ((Below.refl w.heap.size w).alloc (Nat.le_refl _) _).trans (hgr3.below (by simp [Value.ownBlock]) (by simp))⟩
set_option maxRecDepth 100000 in
set_option maxHeartbeats 400000 in
theorem cl_i (A : Option Addr) (c L : Nat) (l : List Int) (w : World) (hL : l.length = L) (h : Rd w w.heap.size A L (ic l)) (hl : L * 8 ≤ 140737488355328) :
    Calls Tryd.prog 39 #[.slice A L c] w fun e w' => ∃ v, e = .returned v ∧ Ow w' w.heap.size 3 v (ic l) ∧ Below w.heap.size w w' := by
  obtain ⟨i0, hi, hz0, hz1, hz2⟩ := info_parts Tryd.clInfoInt
  have q22 : ∀ (w : World) (a : Option Addr) (n c n' c' : Nat), (binOp .eql 25 (.slice a n c) (.slice none n' c')).run Tryd.prog w = .ok (.bool a.isNone) w := fun w a n c n' c' => Lib.run_eql_slice_nil w _ _ a n c n' c' Tryd.underlying25
  subst hL
  cases A with
  | none =>
    have hl0 : l = [] := by
      rcases Nat.eq_zero_or_pos l.length with h0 | h0
      · exact List.eq_nil_of_length_eq_zero h0
      · obtain ⟨b, o, h1, _⟩ := h.2 h0; cases h1
    subst hl0
    go_enter Tryd.func39, Tryd.ntmps39
    go_wp2
    go_ret
    exact ⟨_, rfl, Ow.nil _ _ _, Below.refl _ _⟩
  | some a =>
    go_enter Tryd.func39, Tryd.ntmps39
    go_wp2_with (at_builtin; refine wpList_app _ rfl _ _ _ _ rfl w.heap.size 3 i0 (.int .i64 0) 8 Tryd.underlying25 hi hz0 hz1 hz2 rfl (by omega) _ _ (Ow.made w 3 #[] 0 (by simp [maxLen]) rfl) rfl l.length (ic l) ((h.alloc (Nat.le_refl _) _).src Tryd.underlying25 (ic_one l)) (by simp <;> omega) (by simp) ?_; intro v3 w3 hown3 hgr3 hsz3)
    go_ret
    exact ⟨_, rfl, by simpa using hown3, ((Below.refl w.heap.size w).alloc (Nat.le_refl _) _).trans (hgr3.below (by simp [Value.ownBlock]) (by simp))⟩
set_option maxRecDepth 100000 in
set_option maxHeartbeats 400000 in
theorem eq_b (A1 A2 : Option Addr) (c1 c2 L1 L2 : Nat) (l m : List UInt8) (r : Bool) (w : World) (hr : decide (l = m) = r) (hL1 : l.length = L1) (hL2 : m.length = L2) (h1 : Rd w w.heap.size A1 L1 (bc l)) (h2 : Rd w w.heap.size A2 L2 (bc m)) :
    Calls Tryd.prog 19 #[.slice A1 L1 c1, .slice A2 L2 c2] w fun e w' => e = .returned (.bool r) ∧ w' = w := by
  subst hL1 hL2 hr
  have k1 := conv_bs (P := Tryd.prog) w 22 5 9 A1 c1 w.heap.size l Tryd.underlying22 Tryd.underlying5 Tryd.underlying9 h1
  have k2 := conv_bs (P := Tryd.prog) w 22 5 9 A2 c2 w.heap.size m Tryd.underlying22 Tryd.underlying5 Tryd.underlying9 h2
  go_enter Tryd.func19, Tryd.ntmps19
  go_wp2
  go_ret
  exact ⟨ret_bool (by rw [Bool.eq_iff_iff]; simp), rfl⟩
end Go.Proofs.YtkjibnhihdbmdaaDoor
