/-
  What the laws ask of the guard: it returns true, and nothing that was there has changed.
-/
import Derived.Test.YtlipmlbijddopaaLib
namespace Go.Proofs.Ytlipmlbijddopaa
open Go.RowKit
theorem Ow.form7 {w : World} {base : Nat} {e : TypeId} {v : Value} {xs : List Value} (h : Ow w base e v xs) (n : Nat) (hn : xs.length = n) : ∃ A c, v = .slice A n c ∧ n ≤ c ∧ Rd w w.heap.size A n xs := by
  subst hn
  obtain ⟨A, c, h1, h2, _, h3⟩ := h.form
  exact ⟨A, c, h1, h2, h3⟩
end Go.Proofs.Ytlipmlbijddopaa
