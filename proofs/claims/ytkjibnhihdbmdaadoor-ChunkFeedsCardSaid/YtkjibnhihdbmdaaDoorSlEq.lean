/-
  slices.Equal of strings and of ints.
-/
import Derived.Test.YtkjibnhihdbmdaaDoorSl
import Derived.Test.YtkjibnhihdbmdaaDoorShelf
set_option linter.unusedVariables false
set_option linter.unusedSimpArgs false
namespace Go.Proofs.YtkjibnhihdbmdaaDoor
open Go.RowKit
theorem sc_memq (l : List (List UInt8)) (bl o : Nat) (w : World) (hc : ∀ j u, (sc l)[j]? = some u → w.cell? ⟨bl, o + j, none⟩ = some u) (j : Nat) (hj : j < (l.map fun x => (⟨x.toArray⟩ : ByteArray)).length) :
    w.cell? ⟨bl, o + j, none⟩ = some (.string ((l.map fun x => (⟨x.toArray⟩ : ByteArray)).getD j ByteArray.empty)) := by
  have hj' : j < l.length := by simpa using hj
  rw [hc j _ (sc_get l j hj')]
  simp [List.getD_eq_getElem?_getD, hj']
theorem map_injq (l m : List (List UInt8)) : (l.map (fun x => (⟨x.toArray⟩ : ByteArray)) = m.map (fun x => (⟨x.toArray⟩ : ByteArray))) ↔ l = m := by
  constructor
  · intro h
    induction l generalizing m with
    | nil => cases m with
      | nil => rfl
      | cons b m => simp at h
    | cons a l ih => cases m with
      | nil => simp at h
      | cons b m =>
        simp only [List.map_cons, List.cons.injEq, ByteArray.mk.injEq] at h
        rw [ih m h.2]
        have := congrArg Array.toList h.1
        simpa using this
  · rintro rfl; rfl
theorem eq_s (A1 A2 : Option Addr) (c1 c2 : Nat) (l m : List (List UInt8)) (w : World) (B : Nat) (h1 : Rd w B A1 l.length (sc l)) (h2 : Rd w B A2 m.length (sc m)) (hl : l.length ≤ 140737488355328) (hm : m.length ≤ 140737488355328) :
    Calls Tryd.prog 28 #[.slice A1 l.length c1, .slice A2 m.length c2] w fun e w' => e = .returned (.bool (decide (l = m))) ∧ ∃ q, w' = w.drewN q := by
  by_cases hne : l.length = m.length
  · rcases Nat.eq_zero_or_pos l.length with h0 | h0
    · have e1 : l = [] := List.eq_nil_of_length_eq_zero h0
      have e2 : m = [] := List.eq_nil_of_length_eq_zero (by omega)
      subst e1 e2
      refine (Tryd.slices_Equal_string_empty A1 A2 c1 0 c2 w (by omega)).mono ?_
      rintro e w' ⟨rfl, rfl⟩
      exact ⟨ret_bool (by simp), 0, rfl⟩
    · obtain ⟨b1, o1, rfl, _, k1⟩ := h1.at_ h0
      obtain ⟨b2, o2, rfl, _, k2⟩ := h2.at_ (show 0 < m.length by omega)
      have := Tryd.slices_Equal_string b1 o1 l.length c1 b2 o2 m.length c2 (l.map fun x => (⟨x.toArray⟩ : ByteArray)) (m.map fun x => (⟨x.toArray⟩ : ByteArray)) w (by simp) (by simp) (by omega) (by omega) (sc_memq l b1 o1 w k1) (sc_memq m b2 o2 w k2)
      refine this.mono ?_
      rintro e w' ⟨rfl, hq⟩
      refine ⟨ret_bool ?_, hq⟩
      rw [List.take_of_length_le (by simp), List.take_of_length_le (by simp)]
      simp [map_injq]
  · refine (Tryd.slices_Equal_string_lens A1 A2 l.length c1 m.length c2 w hne).mono ?_
    rintro e w' ⟨rfl, rfl⟩
    refine ⟨ret_bool ?_, 0, rfl⟩
    have : ¬ l = m := fun e => hne (by rw [e])
    simp [this]
theorem ic_memq (l : List Int) (bl o : Nat) (w : World) (hc : ∀ j u, (ic l)[j]? = some u → w.cell? ⟨bl, o + j, none⟩ = some u) (j : Nat) (hj : j < l.length) : w.cell? ⟨bl, o + j, none⟩ = some (.int .i64 (l.getD j 0)) := by
  rw [hc j _ (ic_get l j hj)]
  simp [List.getD_eq_getElem?_getD, hj]
theorem eq_i (A1 A2 : Option Addr) (c1 c2 : Nat) (l m : List Int) (w : World) (B : Nat) (h1 : Rd w B A1 l.length (ic l)) (h2 : Rd w B A2 m.length (ic m)) (hl : l.length ≤ 140737488355328) (hm : m.length ≤ 140737488355328) :
    Calls Tryd.prog 41 #[.slice A1 l.length c1, .slice A2 m.length c2] w fun e w' => e = .returned (.bool (decide (l = m))) ∧ ∃ q, w' = w.drewN q := by
  by_cases hne : l.length = m.length
  · rcases Nat.eq_zero_or_pos l.length with h0 | h0
    · have e1 : l = [] := List.eq_nil_of_length_eq_zero h0
      have e2 : m = [] := List.eq_nil_of_length_eq_zero (by omega)
      subst e1 e2
      refine (Tryd.slices_Equal_int_empty A1 A2 c1 0 c2 w (by omega)).mono ?_
      rintro e w' ⟨rfl, rfl⟩
      exact ⟨ret_bool (by simp), 0, rfl⟩
    · obtain ⟨b1, o1, rfl, _, k1⟩ := h1.at_ h0
      obtain ⟨b2, o2, rfl, _, k2⟩ := h2.at_ (show 0 < m.length by omega)
      have := Tryd.slices_Equal_int b1 o1 l.length c1 b2 o2 m.length c2 l m w (Nat.le_refl _) (Nat.le_refl _) (by omega) (by omega) (ic_memq l b1 o1 w k1) (ic_memq m b2 o2 w k2)
      refine this.mono ?_
      rintro e w' ⟨rfl, hq⟩
      refine ⟨ret_bool ?_, hq⟩
      rw [List.take_length, List.take_length]
      rw [Bool.eq_iff_iff]; simp
  · refine (Tryd.slices_Equal_int_lens A1 A2 l.length c1 m.length c2 w hne).mono ?_
    rintro e w' ⟨rfl, rfl⟩
    refine ⟨ret_bool ?_, 0, rfl⟩
    have : ¬ l = m := fun e => hne (by rw [e])
    simp [this]
theorem eq_s_at (A1 A2 : Option Addr) (c1 c2 L1 L2 : Nat) (l m : List (List UInt8)) (r : Bool) (w : World) (hr : decide (l = m) = r) (hL1 : l.length = L1) (hL2 : m.length = L2) (h1 : Rd w w.heap.size A1 L1 (sc l)) (h2 : Rd w w.heap.size A2 L2 (sc m)) (hl : L1 ≤ 140737488355328) (hm : L2 ≤ 140737488355328) :
    Calls Tryd.prog 28 #[.slice A1 L1 c1, .slice A2 L2 c2] w fun e w' => e = .returned (.bool r) ∧ ∃ q, w' = w.drewN q := by
  subst hL1 hL2 hr; exact eq_s A1 A2 c1 c2 l m w w.heap.size h1 h2 hl hm
theorem eq_i_at (A1 A2 : Option Addr) (c1 c2 L1 L2 : Nat) (l m : List Int) (r : Bool) (w : World) (hr : decide (l = m) = r) (hL1 : l.length = L1) (hL2 : m.length = L2) (h1 : Rd w w.heap.size A1 L1 (ic l)) (h2 : Rd w w.heap.size A2 L2 (ic m)) (hl : L1 ≤ 140737488355328) (hm : L2 ≤ 140737488355328) :
    Calls Tryd.prog 41 #[.slice A1 L1 c1, .slice A2 L2 c2] w fun e w' => e = .returned (.bool r) ∧ ∃ q, w' = w.drewN q := by
  subst hL1 hL2 hr; exact eq_i A1 A2 c1 c2 l m w w.heap.size h1 h2 hl hm
end Go.Proofs.YtkjibnhihdbmdaaDoor
