/-
  Plain: names appended one after the other are read as they were.
-/
import Derived.Test.YtnfgcfljjmjmpaaAppP
set_option linter.unusedVariables false
namespace Go.Proofs.Ytnfgcfljjmjmpaa
open Go.RowKit
/-- the names ns begin at bg, and each ends where the next one begins -/
def BackInv (b : List UInt8) (bg : List Nat) (ns : List (List (List UInt8))) : Prop :=
  bg.length = ns.length ∧ ∀ i n, ns[i]? = some n → ∃ p q, bg[i]? = some p ∧ (bg ++ [b.length])[i + 1]? = some q ∧ q ≤ b.length ∧ p ≤ b.length ∧ readN b p = (n, q, 0)
theorem back_nil (b : List UInt8) : BackInv b [] [] := ⟨rfl, fun i n h => by simp at h⟩
theorem back_step {b : List UInt8} {bg : List Nat} {ns : List (List (List UInt8))} (h : BackInv b bg ns) (known : List Int) (N : List (List UInt8)) (hr : rightN N = true) : BackInv (appN b known N) (bg ++ [b.length]) (ns ++ [N]) := by
  obtain ⟨a1, a2, a3, a4⟩ := app_reads b known N hr
  refine ⟨by simp [h.1], fun i n hi => ?_⟩
  rcases Nat.lt_or_ge i ns.length with h1 | h1
  · rw [List.getElem?_append_left h1] at hi
    obtain ⟨p, q, e1, e2, e3, e4, e5⟩ := h.2 i n hi
    have hbl := h.1
    refine ⟨p, q, ?_, ?_, by omega, by omega, ?_⟩
    · rw [List.getElem?_append_left (by omega)]; exact e1
    · rw [List.getElem?_append_left (by simp; omega)]; exact e2
    · have hb := readN_behind b p e4 (by rw [e5]) (appN b known N)
      rw [e5] at hb
      refine hb ?_ (by simp only; omega)
      have hq : (appN b known N).take b.length = b.take b.length := by rw [a4, List.take_length]
      exact take_take_of hq e3
  · rw [List.getElem?_append_right h1] at hi
    have hi0 : i = ns.length := by
      rcases Nat.eq_zero_or_pos (i - ns.length) with h2 | h2
      · omega
      · rw [List.getElem?_eq_none (by simp; omega)] at hi; cases hi
    subst hi0
    simp at hi
    subst hi
    refine ⟨b.length, (appN b known N).length, ?_, ?_, Nat.le_refl _, by omega, a1⟩
    · rw [List.getElem?_append_right (by rw [h.1]; omega), h.1]; simp
    · rw [List.getElem?_append_right (by simp [h.1])]; simp [h.1]
end Go.Proofs.Ytnfgcfljjmjmpaa
