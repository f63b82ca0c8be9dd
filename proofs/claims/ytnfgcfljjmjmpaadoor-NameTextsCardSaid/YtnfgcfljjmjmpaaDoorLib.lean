import Derived.Test.YtnfgcfljjmjmpaaDoorRead
import Derived.Test.YtnfgcfljjmjmpaaDoorB2
import Derived.Test.YtnfgcfljjmjmpaaDoorShelf
import Derived.Deep.QuietTactic
import Derived.BigQuiet
set_option linter.unusedVariables false
namespace Go.Proofs.YtnfgcfljjmjmpaaDoor
open Go.RowKit

theorem szStr (w : World) : (Go.sizeOf 9).run Tryd.prog w = .ok 1 w := by kernel_rfl
theorem szByte (w : World) : (Go.sizeOf 5).run Tryd.prog w = .ok 1 w := by kernel_rfl

/-! ### bytes.Clone, slices.Clone, bytes.Equal, slices.Equal -/
theorem sc_mem (l : List (List UInt8)) (bl o : Nat) (w : World) (hc : ∀ j u, (sc l)[j]? = some u → w.cell? ⟨bl, o + j, none⟩ = some u) (j : Nat) (hj : j < (l.map fun x => (⟨x.toArray⟩ : ByteArray)).length) :
    w.cell? ⟨bl, o + j, none⟩ = some (.string ((l.map fun x => (⟨x.toArray⟩ : ByteArray)).getD j ByteArray.empty)) := by
  have hj' : j < l.length := by simpa using hj
  rw [hc j _ (sc_get l j hj')]
  simp [List.getD_eq_getElem?_getD, hj']
theorem map_inj (l m : List (List UInt8)) : (l.map (fun x => (⟨x.toArray⟩ : ByteArray)) = m.map (fun x => (⟨x.toArray⟩ : ByteArray))) ↔ l = m := by
  constructor
  · intro h
    induction l generalizing m with
    | nil => cases m with
      | nil => rfl
      | cons b m => simp at h
    | cons a l ih => cases m with
      | nil => simp at h
      | cons b m =>
        simp only [List.map_cons, List.cons.injEq, ByteArray.mk.injEq] at h
        rw [ih m h.2]
        have := congrArg Array.toList h.1
        simpa using this
  · rintro rfl; rfl
theorem seq_any (A1 A2 : Option Addr) (c1 c2 : Nat) (l m : List (List UInt8)) (w : World) (B : Nat) (h1 : Rd w B A1 l.length (sc l)) (h2 : Rd w B A2 m.length (sc m)) (hl : l.length ≤ 140737488355328) (hm : m.length ≤ 140737488355328) :
    Calls Tryd.prog 9 #[.slice A1 l.length c1, .slice A2 m.length c2] w fun e w' => e = .returned (.bool (decide (l = m))) ∧ ∃ q, w' = w.drewN q := by
  by_cases hne : l.length = m.length
  · rcases Nat.eq_zero_or_pos l.length with h0 | h0
    · have e1 : l = [] := List.eq_nil_of_length_eq_zero h0
      have e2 : m = [] := List.eq_nil_of_length_eq_zero (by omega)
      subst e1 e2
      refine (Tryd.slices_Equal_string_empty A1 A2 c1 0 c2 w (by omega)).mono ?_
      rintro e w' ⟨rfl, rfl⟩
      exact ⟨ret_bool (by simp), 0, rfl⟩
    · obtain ⟨b1, o1, rfl, _, k1⟩ := h1.at_ h0
      obtain ⟨b2, o2, rfl, _, k2⟩ := h2.at_ (show 0 < m.length by omega)
      have := Tryd.slices_Equal_string b1 o1 l.length c1 b2 o2 m.length c2 (l.map fun x => (⟨x.toArray⟩ : ByteArray)) (m.map fun x => (⟨x.toArray⟩ : ByteArray)) w (by simp) (by simp) (by omega) (by omega) (sc_mem l b1 o1 w k1) (sc_mem m b2 o2 w k2)
      refine this.mono ?_
      rintro e w' ⟨rfl, hq⟩
      refine ⟨ret_bool ?_, hq⟩
      rw [List.take_of_length_le (by simp), List.take_of_length_le (by simp)]
      simp [map_inj]
  · refine (Tryd.slices_Equal_string_lens A1 A2 l.length c1 m.length c2 w hne).mono ?_
    rintro e w' ⟨rfl, rfl⟩
    refine ⟨ret_bool ?_, 0, rfl⟩
    have : ¬ l = m := fun e => hne (by rw [e])
    simp [this]
end Go.Proofs.YtnfgcfljjmjmpaaDoor
