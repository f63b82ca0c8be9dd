import Derived.Test.YtlipmlbijddopaaRead
import Derived.Test.YtlipmlbijddopaaB2
import Derived.Test.YtlipmlbijddopaaShelf
import Derived.Deep.QuietTactic
import Derived.BigQuiet
set_option linter.unusedVariables false
namespace Go.Proofs.Ytlipmlbijddopaa
open Go.RowKit

theorem szStr (w : World) : (Go.sizeOf 9).run Try.prog w = .ok 1 w := by kernel_rfl
theorem szByte (w : World) : (Go.sizeOf 5).run Try.prog w = .ok 1 w := by kernel_rfl

/-! ### bytes.Clone, slices.Clone, bytes.Equal, slices.Equal -/
set_option maxRecDepth 100000 in
set_option maxHeartbeats 400000 in
theorem bclone (A : Option Addr) (c : Nat) (l : List UInt8) (w : World) (B : Nat) (hB : B ≤ w.heap.size) (h : Rd w B A l.length (bc l)) (hl : l.length ≤ 140737488355328) :
    Calls Try.prog 7 #[.slice A l.length c] w fun e w' => ∃ v, e = .returned v ∧ Ow w' w.heap.size 5 v (bc l) ∧ Below w.heap.size w w' := by
  obtain ⟨i0, hi, hz0, hz1, hz2⟩ := info_parts Try.infoByte
  have q22 : ∀ (w : World) (a : Option Addr) (n c n' c' : Nat), (binOp .eql 22 (.slice a n c) (.slice none n' c')).run Try.prog w = .ok (.bool a.isNone) w := fun w a n c n' c' => Lib.run_eql_slice_nil w _ _ a n c n' c' Try.underlying22
  cases A with
  | none =>
    have hl0 : l = [] := by
      rcases Nat.eq_zero_or_pos l.length with h0 | h0
      · exact List.eq_nil_of_length_eq_zero h0
      · obtain ⟨b, o, h1, _⟩ := h.2 h0; cases h1
    subst hl0
    go_enter Try.func7, Try.ntmps7
    go_wp2
    go_ret
    exact ⟨_, rfl, Ow.nil _ _ _, Below.refl _ _⟩
  | some a =>
    go_enter Try.func7, Try.ntmps7
    go_wp2_with (at_builtin; refine wpList_app _ rfl _ _ _ _ rfl w.heap.size 5 i0 (.int .u8 0) 1 Try.underlying22 hi hz0 hz1 hz2 rfl (Nat.le_refl _) _ _ (Ow.made w 5 #[] 0 (by simp [maxLen]) rfl) rfl l.length (bc l) ((h.alloc hB _).src Try.underlying22 (bc_one l)) (by simp; omega) (by simp) ?_; intro v3 w3 hown3 hgr3 hsz3)
    go_ret
    exact ⟨_, rfl, by simpa using hown3, ((Below.refl w.heap.size w).alloc (Nat.le_refl _) _).trans (hgr3.below (by simp [Value.ownBlock]) (by simp))⟩

set_option maxRecDepth 100000 in
set_option maxHeartbeats 400000 in
theorem sclone (A : Option Addr) (c : Nat) (l : List (List UInt8)) (w : World) (B : Nat) (hB : B ≤ w.heap.size) (h : Rd w B A l.length (sc l)) (hl : l.length * 16 ≤ 140737488355328) :
    Calls Try.prog 45 #[.slice A l.length c] w fun e w' => ∃ v, e = .returned v ∧ Ow w' w.heap.size 9 v (sc l) ∧ Below w.heap.size w w' := by
  obtain ⟨i0, hi, hz0, hz1, hz2⟩ := info_parts Try.infoStr
  have q22 : ∀ (w : World) (a : Option Addr) (n c n' c' : Nat), (binOp .eql 36 (.slice a n c) (.slice none n' c')).run Try.prog w = .ok (.bool a.isNone) w := fun w a n c n' c' => Lib.run_eql_slice_nil w _ _ a n c n' c' Try.underlying36
  cases A with
  | none =>
    have hl0 : l = [] := by
      rcases Nat.eq_zero_or_pos l.length with h0 | h0
      · exact List.eq_nil_of_length_eq_zero h0
      · obtain ⟨b, o, h1, _⟩ := h.2 h0; cases h1
    subst hl0
    go_enter Try.func45, Try.ntmps45
    go_wp2
    go_ret
    exact ⟨_, rfl, Ow.nil _ _ _, Below.refl _ _⟩
  | some a =>
    go_enter Try.func45, Try.ntmps45
    go_wp2_with (at_builtin; refine wpList_app _ rfl _ _ _ _ rfl w.heap.size 9 i0 (.string ⟨#[]⟩) 16 Try.underlying36 hi hz0 hz1 hz2 rfl (by omega) _ _ (Ow.made w 9 #[] 0 (by simp [maxLen]) rfl) rfl l.length (sc l) ((h.alloc hB _).src Try.underlying36 (sc_one l)) (by simp; omega) (by simp) ?_; intro v3 w3 hown3 hgr3 hsz3)
    go_ret
    exact ⟨_, rfl, by simpa using hown3, ((Below.refl w.heap.size w).alloc (Nat.le_refl _) _).trans (hgr3.below (by simp [Value.ownBlock]) (by simp))⟩

set_option maxRecDepth 100000 in
set_option maxHeartbeats 400000 in
theorem beq_any (A1 A2 : Option Addr) (c1 c2 : Nat) (l m : List UInt8) (w : World) (B : Nat) (h1 : Rd w B A1 l.length (bc l)) (h2 : Rd w B A2 m.length (bc m)) :
    Calls Try.prog 22 #[.slice A1 l.length c1, .slice A2 m.length c2] w fun e w' => e = .returned (.bool (decide (l = m))) ∧ w' = w := by
  have k1 := conv_bs (P := Try.prog) w 22 5 9 A1 c1 B l Try.underlying22 Try.underlying5 Try.underlying9 h1
  have k2 := conv_bs (P := Try.prog) w 22 5 9 A2 c2 B m Try.underlying22 Try.underlying5 Try.underlying9 h2
  go_enter Try.func22, Try.ntmps22
  go_wp2
  go_ret
  exact ⟨ret_bool (by rw [Bool.eq_iff_iff]; simp), rfl⟩

theorem sc_mem (l : List (List UInt8)) (bl o : Nat) (w : World) (hc : ∀ j u, (sc l)[j]? = some u → w.cell? ⟨bl, o + j, none⟩ = some u) (j : Nat) (hj : j < (l.map fun x => (⟨x.toArray⟩ : ByteArray)).length) :
    w.cell? ⟨bl, o + j, none⟩ = some (.string ((l.map fun x => (⟨x.toArray⟩ : ByteArray)).getD j ByteArray.empty)) := by
  have hj' : j < l.length := by simpa using hj
  rw [hc j _ (sc_get l j hj')]
  simp [List.getD_eq_getElem?_getD, hj']
theorem map_inj (l m : List (List UInt8)) : (l.map (fun x => (⟨x.toArray⟩ : ByteArray)) = m.map (fun x => (⟨x.toArray⟩ : ByteArray))) ↔ l = m := by
  constructor
  · intro h
    induction l generalizing m with
    | nil => cases m with
      | nil => rfl
      | cons b m => simp at h
    | cons a l ih => cases m with
      | nil => simp at h
      | cons b m =>
        simp only [List.map_cons, List.cons.injEq, ByteArray.mk.injEq] at h
        rw [ih m h.2]
        have := congrArg Array.toList h.1
        simpa using this
  · rintro rfl; rfl
theorem seq_any (A1 A2 : Option Addr) (c1 c2 : Nat) (l m : List (List UInt8)) (w : World) (B : Nat) (h1 : Rd w B A1 l.length (sc l)) (h2 : Rd w B A2 m.length (sc m)) (hl : l.length ≤ 140737488355328) (hm : m.length ≤ 140737488355328) :
    Calls Try.prog 55 #[.slice A1 l.length c1, .slice A2 m.length c2] w fun e w' => e = .returned (.bool (decide (l = m))) ∧ ∃ q, w' = w.drewN q := by
  by_cases hne : l.length = m.length
  · rcases Nat.eq_zero_or_pos l.length with h0 | h0
    · have e1 : l = [] := List.eq_nil_of_length_eq_zero h0
      have e2 : m = [] := List.eq_nil_of_length_eq_zero (by omega)
      subst e1 e2
      refine (Try.slices_Equal_string_empty A1 A2 c1 0 c2 w (by omega)).mono ?_
      rintro e w' ⟨rfl, rfl⟩
      exact ⟨ret_bool (by simp), 0, rfl⟩
    · obtain ⟨b1, o1, rfl, _, k1⟩ := h1.at_ h0
      obtain ⟨b2, o2, rfl, _, k2⟩ := h2.at_ (show 0 < m.length by omega)
      have := Try.slices_Equal_string b1 o1 l.length c1 b2 o2 m.length c2 (l.map fun x => (⟨x.toArray⟩ : ByteArray)) (m.map fun x => (⟨x.toArray⟩ : ByteArray)) w (by simp) (by simp) (by omega) (by omega) (sc_mem l b1 o1 w k1) (sc_mem m b2 o2 w k2)
      refine this.mono ?_
      rintro e w' ⟨rfl, hq⟩
      refine ⟨ret_bool ?_, hq⟩
      rw [List.take_of_length_le (by simp), List.take_of_length_le (by simp)]
      simp [map_inj]
  · refine (Try.slices_Equal_string_lens A1 A2 l.length c1 m.length c2 w hne).mono ?_
    rintro e w' ⟨rfl, rfl⟩
    refine ⟨ret_bool ?_, 0, rfl⟩
    have : ¬ l = m := fun e => hne (by rw [e])
    simp [this]
end Go.Proofs.Ytlipmlbijddopaa
