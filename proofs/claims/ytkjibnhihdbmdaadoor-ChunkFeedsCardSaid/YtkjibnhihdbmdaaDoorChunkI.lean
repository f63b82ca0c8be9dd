/-
  A chunk.Reader in memory: what an append onto one of its slices leaves.
-/
import Derived.Test.YtkjibnhihdbmdaaDoorChunkR
import Derived.Test.YtkjibnhihdbmdaaDoorChunkG
set_option linter.unusedVariables false
set_option linter.unusedSimpArgs false
namespace Go.Proofs.YtkjibnhihdbmdaaDoor
open Go.RowKit
variable {fr : Frm}
theorem kp_lt {w : World} {k : Nat} {o : Obj} (h : w.heap[k]? = some o) : k < w.heap.size := by
  rcases Nat.lt_or_ge k w.heap.size with h' | h'
  · exact h'
  · simp [Array.getElem?_eq_none h'] at h
theorem kp_gr {w w' : World} {v v' : Value} (hg : Gr w w' v v') (hk : ∀ x ∈ fr, w.heap[x.1]? = some x.2) (hn : ∀ x ∈ fr, v.ownBlock ≠ some x.1) : ∀ x ∈ fr, w'.heap[x.1]? = some x.2 := fun x hx => (hg.1.block x.1 (kp_lt (hk x hx)) (fun e => hn x hx e.symm)).trans (hk x hx)
theorem na_gr {w w' : World} {v v' : Value} (hg : Gr w w' v v') (hk : ∀ x ∈ fr, w.heap[x.1]? = some x.2) (hn : ∀ x ∈ fr, v.ownBlock ≠ some x.1) : ∀ x ∈ fr, v'.ownBlock ≠ some x.1 := fun x hx e => by
  rcases hg.2 _ e with h | h
  · exact hn x hx h
  · have := kp_lt (hk x hx); omega
theorem Inv.alloc {w : World} {base g : Nat} {r : Rdr} {vb vt vl : Value} (h : Inv fr w base g r vb vt vl) (o : Obj) : Inv fr (w.alloc o) base g r vb vt vl :=
  ⟨h.own.below ((Below.refl _ _).alloc (Nat.le_refl _) o) h.lt, h.ge, by have := h.lt; simp; omega, h.rows.alloc o, h.nb, h.nt, h.nl, (fun x hx => (Below.heap_alloc w o x.1 (kp_lt (h.kp x hx))).trans (h.kp x hx)), h.na⟩
theorem Inv.far {w w' : World} {base g : Nat} {r : Rdr} {vb vt vl : Value} (h : Inv fr w base g r vb vt vl) (hb : Below w.heap.size w w') : Inv fr w' base g r vb vt vl :=
  ⟨h.own.below hb h.lt, h.ge, Nat.lt_of_lt_of_le h.lt hb.size, h.rows.far hb, h.nb, h.nt, h.nl, (fun x hx => (hb.block x.1 (kp_lt (h.kp x hx))).trans (h.kp x hx)), h.na⟩
theorem Own.gr {w w' : World} {v v' : Value} {g : Nat} {xs : List Value} (h : Own w g xs) (hg : Gr w w' v v') (hlt : g < w.heap.size) (hne : v.ownBlock ≠ some g) : Own w' g xs := by
  have hb := hg.1.block g hlt (fun e => hne e.symm)
  intro j u hu
  obtain ⟨h1, h2⟩ := h j u hu
  exact ⟨(World.cell?_of_block hb).trans h1, (by
    have : w'.frozen? ⟨g, j, none⟩ = w.frozen? ⟨g, j, none⟩ := by unfold World.frozen?; rw [hb]
    exact this.trans h2)⟩
theorem gr_ne {w w' : World} {v v' : Value} {g : Nat} (hg : Gr w w' v v') (hlt : g < w.heap.size) (hne : v.ownBlock ≠ some g) : v'.ownBlock ≠ some g := by
  intro e
  rcases hg.2 g e with h | h
  · exact hne h
  · omega
theorem Owns.swap {w : World} {base : Nat} {x y : TypeId × Value × List Value} {l : OwnL} (h : Owns w base (x :: y :: l)) : Owns w base (y :: x :: l) := h.perm (List.Perm.swap _ _ _)
theorem Owns.third {w : World} {base : Nat} {x y z : TypeId × Value × List Value} {l : OwnL} (h : Owns w base (x :: y :: z :: l)) : Owns w base (z :: x :: y :: l) := h.perm (by
  have h1 : (x :: y :: z :: l).Perm (x :: z :: y :: l) := (List.Perm.swap _ _ _).cons x
  exact h1.trans (List.Perm.swap _ _ _))
theorem Owns.third' {w : World} {base : Nat} {x y z : TypeId × Value × List Value} {l : OwnL} (h : Owns w base (z :: x :: y :: l)) : Owns w base (x :: y :: z :: l) := h.perm (by
  have h1 : (z :: x :: y :: l).Perm (x :: z :: y :: l) := List.Perm.swap _ _ _
  exact h1.trans ((List.Perm.swap _ _ _).cons x))
/-- an append onto the body -/
theorem Inv.body_ {w w' : World} {base g : Nat} {r : Rdr} {vb vt vl v' : Value} (h : Inv fr w base g r vb vt vl) (m : List UInt8) (hg : Gr w w' vb v') (ho : Ow w' base 5 v' (bc m)) :
    Inv fr (w'.setCell ⟨g, 3, none⟩ v') base g { r with body := m } v' vt vl := by
  have h1 : Own w' g (rdrCells g r vb vt vl) := h.own.gr hg h.lt h.nb
  have h2 := h.rows.app hg ho
  have h3 := gr_ne hg h.lt h.nb
  have h4 : ∀ x ∈ [(5, v', bc m), (9, vt, sc r.trs), (5, vl, bc r.line)], x.2.1.ownBlock ≠ some g := by
    intro x hx
    simp only [List.mem_cons, List.mem_nil_iff, or_false] at hx
    rcases hx with rfl | rfl | rfl
    · exact h3
    · exact h.nt
    · exact h.nl
  exact ⟨h1.set_ 3 v', h.ge, by have := h.lt; have := hg.1.size; simp; omega, h2.set_ h4 3 _, h3, h.nt, h.nl, kp_set (kp_gr hg h.kp (fun x hx => (h.na x hx).2.1)) (fun x hx => (h.na x hx).1) 3 _, fun x hx => ⟨(h.na x hx).1, na_gr hg h.kp (fun x hx => (h.na x hx).2.1) x hx, (h.na x hx).2.2⟩⟩
/-- an append onto the trailers -/
theorem Inv.trs_ {w w' : World} {base g : Nat} {r : Rdr} {vb vt vl v' : Value} (h : Inv fr w base g r vb vt vl) (m : List (List UInt8)) (hg : Gr w w' vt v') (ho : Ow w' base 9 v' (sc m)) :
    Inv fr (w'.setCell ⟨g, 4, none⟩ v') base g { r with trs := m } vb v' vl := by
  have h1 : Own w' g (rdrCells g r vb vt vl) := h.own.gr hg h.lt h.nt
  have h2 := (h.rows.swap.app hg ho).swap
  have h3 := gr_ne hg h.lt h.nt
  have h4 : ∀ x ∈ [(5, vb, bc r.body), (9, v', sc m), (5, vl, bc r.line)], x.2.1.ownBlock ≠ some g := by
    intro x hx
    simp only [List.mem_cons, List.mem_nil_iff, or_false] at hx
    rcases hx with rfl | rfl | rfl
    · exact h.nb
    · exact h3
    · exact h.nl
  exact ⟨h1.set_ 4 v', h.ge, by have := h.lt; have := hg.1.size; simp; omega, h2.set_ h4 4 _, h.nb, h3, h.nl, kp_set (kp_gr hg h.kp (fun x hx => (h.na x hx).2.2.1)) (fun x hx => (h.na x hx).1) 4 _, fun x hx => ⟨(h.na x hx).1, (h.na x hx).2.1, na_gr hg h.kp (fun x hx => (h.na x hx).2.2.1) x hx, (h.na x hx).2.2.2⟩⟩
/-- an append onto the line -/
theorem Inv.line_ {w w' : World} {base g : Nat} {r : Rdr} {vb vt vl v' : Value} (h : Inv fr w base g r vb vt vl) (m : List UInt8) (hg : Gr w w' vl v') (ho : Ow w' base 5 v' (bc m)) :
    Inv fr (w'.setCell ⟨g, 5, none⟩ v') base g { r with line := m } vb vt v' := by
  have h1 : Own w' g (rdrCells g r vb vt vl) := h.own.gr hg h.lt h.nl
  have h2 := (h.rows.third.app hg ho).third'
  have h3 := gr_ne hg h.lt h.nl
  have h4 : ∀ x ∈ [(5, vb, bc r.body), (9, vt, sc r.trs), (5, v', bc m)], x.2.1.ownBlock ≠ some g := by
    intro x hx
    simp only [List.mem_cons, List.mem_nil_iff, or_false] at hx
    rcases hx with rfl | rfl | rfl
    · exact h.nb
    · exact h.nt
    · exact h3
  exact ⟨h1.set_ 5 v', h.ge, by have := h.lt; have := hg.1.size; simp; omega, h2.set_ h4 5 _, h.nb, h.nt, h3, kp_set (kp_gr hg h.kp (fun x hx => (h.na x hx).2.2.2)) (fun x hx => (h.na x hx).1) 5 _, fun x hx => ⟨(h.na x hx).1, (h.na x hx).2.1, (h.na x hx).2.2.1, na_gr hg h.kp (fun x hx => (h.na x hx).2.2.2) x hx⟩⟩
/-- 'line[:0]' -/
theorem ow_empty {w : World} {base : Nat} {e : TypeId} {A : Option Addr} {n c : Nat} {xs : List Value} (h : Ow w base e (.slice A n c) xs) : Ow w base e (.slice A 0 c) [] := by
  refine ⟨by simp, ?_⟩
  rcases h.2 with ⟨h1, h2⟩ | ⟨g, cap, cur, h1, hbg, hg, hnc, hcm, hcs, htake⟩
  · cases h1
    exact .inl ⟨rfl, rfl⟩
  · cases h1
    exact .inr ⟨g, _, cur, rfl, hbg, hg, Nat.zero_le _, hcm, hcs, by simp⟩
theorem Inv.cut {w : World} {base g : Nat} {r : Rdr} {vb vt : Value} {A : Option Addr} {n c : Nat} (h : Inv fr w base g r vb vt (.slice A n c)) : Inv fr (w.setCell ⟨g, 5, none⟩ (.slice A 0 c)) base g { r with line := [] } vb vt (.slice A 0 c) := by
  have ho := ow_empty (h.rows.get (.tail _ (.tail _ (.head _))))
  have hg : Gr w w (.slice A n c) (.slice A 0 c) := ⟨(Gr.refl w (.slice A n c)).1, fun q hq => .inl (by cases A with | none => simp [Value.ownBlock] at hq | some a => simpa [Value.ownBlock] using hq)⟩
  exact h.line_ [] hg ho
end Go.Proofs.YtkjibnhihdbmdaaDoor
