import Derived.Test.YtlipmlbijddopaaAppOk
import Derived.Test.YtlipmlbijddopaaParse
import Derived.Test.YtlipmlbijddopaaOrder
set_option linter.unusedVariables false
namespace Go.Proofs.Ytlipmlbijddopaa
open Go.RowKit

/-- slices that are known to be readable -/
def Knows (w : World) (l : List (Option Addr × Nat × List Value)) : Prop := ∀ x ∈ l, Rd w w.heap.size x.1 x.2.1 x.2.2
theorem Knows.nil (w : World) : Knows w [] := fun _ h => by cases h
theorem Knows.below {w w' : World} {l : List (Option Addr × Nat × List Value)} (h : Knows w l) (hb : Below w.heap.size w w') : Knows w' l := fun x hx => ((h x hx).below hb).more hb.size
theorem Knows.alloc {w : World} {l : List (Option Addr × Nat × List Value)} (h : Knows w l) (o : Obj) : Knows (w.alloc o) l := fun x hx => ((h x hx).alloc (Nat.le_refl _) o).more (by simp)
theorem Knows.drew {w : World} {l : List (Option Addr × Nat × List Value)} (h : Knows w l) : Knows w.drew l := h
theorem Knows.drewN {w : World} {l : List (Option Addr × Nat × List Value)} (h : Knows w l) (q : Nat) : Knows (w.drewN q) l := h
theorem Knows.cons {w : World} {l : List (Option Addr × Nat × List Value)} (h : Knows w l) {A : Option Addr} {n : Nat} {xs : List Value} (hr : Rd w w.heap.size A n xs) : Knows w ((A, n, xs) :: l) := fun x hx => by
  rcases List.mem_cons.1 hx with rfl | hx
  · exact hr
  · exact h x hx
theorem Knows.get {w : World} {l : List (Option Addr × Nat × List Value)} (h : Knows w l) {A : Option Addr} {n : Nat} {xs : List Value} (hx : (A, n, xs) ∈ l) : Rd w w.heap.size A n xs := h _ hx
/-- a literal just built -/
theorem Rd.lit (w : World) (e : TypeId) (cs : List Value) (n : Nat) (hn : cs.length = n) (hm : cs.length ≤ maxLen) : Rd (w.alloc (.cells cs.toArray e)) (w.heap.size + 1) (some ⟨w.heap.size, 0, none⟩) n cs := by
  subst hn
  have h := Rd.of_own (Ow.lit w e cs hm)
  rw [World.size_alloc] at h
  exact h

theorem Ow.form6 {w : World} {base : Nat} {e : TypeId} {v : Value} {xs : List Value} (h : Ow w base e v xs) (n : Nat) (hn : xs.length = n) : ∃ A c, v = .slice A n c ∧ n ≤ c ∧ Rd w w.heap.size A n xs := by
  subst hn
  obtain ⟨A, c, h1, h2, _, h3⟩ := h.form
  exact ⟨A, c, h1, h2, h3⟩
theorem Rd.lit_at (w : World) (e : TypeId) (cs : List Value) (n g : Nat) (hg : g = w.heap.size) (hn : cs.length = n) (hm : cs.length ≤ maxLen) : Rd (w.alloc (.cells cs.toArray e)) (w.heap.size + 1) (some ⟨g, 0, none⟩) n cs := by
  subst hg; exact Rd.lit w e cs n hn hm
theorem Rd.lit_top (w : World) (e : TypeId) (cs : List Value) (n g : Nat) (hg : g = w.heap.size) (hn : cs.length = n) (hm : cs.length ≤ maxLen) : Rd (w.alloc (.cells cs.toArray e)) (w.alloc (.cells cs.toArray e)).heap.size (some ⟨g, 0, none⟩) n cs := (Rd.lit_at w e cs n g hg hn hm).more (by simp)
theorem Rd.alloc_top {w : World} {A : Option Addr} {n : Nat} {xs : List Value} (h : Rd w w.heap.size A n xs) (o : Obj) : Rd (w.alloc o) (w.alloc o).heap.size A n xs := (h.alloc (Nat.le_refl _) o).more (by simp)
theorem Rd.step {w w' : World} {A : Option Addr} {n q : Nat} {xs : List Value} (h : Rd w w.heap.size A n xs) (hq : w' = w.drewN q) : Rd w' w'.heap.size A n xs := by subst hq; exact h

end Go.Proofs.Ytlipmlbijddopaa
