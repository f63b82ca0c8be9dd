import Derived.Test.YtlipmlbijddopaaLib
import Derived.Lib.Builder
import Derived.Laws.Externs
set_option linter.unusedVariables false
namespace Go.Proofs.Ytlipmlbijddopaa
open Go.RowKit

/-- from (w, v) to (w', v'): only block b, v's row and new blocks were written -/
structure Kp (w w' : World) (b : Nat) (v v' : Value) : Prop where
  os : w'.os = w.os
  tape : w'.tape = w.tape
  output : w'.output = w.output
  size : w.heap.size ≤ w'.heap.size
  block : ∀ k, k < w.heap.size → k ≠ b → v.ownBlock ≠ some k → w'.heap[k]? = w.heap[k]?
  at_ : ∀ g, v'.ownBlock = some g → v.ownBlock = some g ∨ w.heap.size ≤ g
theorem Kp.refl (w : World) (b : Nat) (v : Value) : Kp w w b v v := ⟨rfl, rfl, rfl, Nat.le_refl _, fun _ _ _ _ => rfl, fun _ h => .inl h⟩
theorem Kp.trans {a b c : World} {k : Nat} {v v1 v2 : Value} (h : Kp a b k v v1) (g : Kp b c k v1 v2) : Kp a c k v v2 := by
  refine ⟨g.os.trans h.os, g.tape.trans h.tape, g.output.trans h.output, Nat.le_trans h.size g.size, fun i hi h1 h2 => ?_, fun i hi => ?_⟩
  · refine (g.block i (Nat.lt_of_lt_of_le hi h.size) h1 (fun e => ?_)).trans (h.block i hi h1 h2)
    rcases h.at_ i e with h3 | h3
    · exact h2 h3
    · omega
  · rcases g.at_ i hi with h1 | h1
    · exact h.at_ i h1
    · exact .inr (Nat.le_trans h.size h1)
theorem Kp.below {w w' : World} {b B : Nat} {v v' : Value} (h : Kp w w' b v v') (hb : B ≤ b) (hv : ∀ g, v.ownBlock = some g → B ≤ g) (hB : B ≤ w.heap.size) : Below B w w' :=
  ⟨h.os, h.tape, h.output, h.size, fun k hk => h.block k (by omega) (by omega) (fun e => by have := hv k e; omega)⟩
theorem Kp.set_ {w : World} {b : Nat} {v v1 : Value} (k : Nat) (u : Value) (hv : v1 = v) : Kp w (w.setCell ⟨b, k, none⟩ u) b v v1 :=
  ⟨rfl, rfl, rfl, by simp [World.setCell], fun i _ h1 _ => Below.heap_setCell _ _ _ _ h1, fun g hg => .inl (by rw [← hv]; exact hg)⟩
theorem Kp.gr {w w' : World} {b : Nat} {v v1 : Value} (h : Gr w w' v v1) : Kp w w' b v v1 :=
  ⟨h.1.os, h.1.tape, h.1.output, h.1.size, fun i hi _ h2 => h.1.block i hi (fun e => h2 e.symm), h.2⟩
theorem Kp.alloc {w w' : World} {b : Nat} {v v1 : Value} (h : Kp w w' b v v1) (o : Obj) : Kp w (w'.alloc o) b v v1 :=
  ⟨h.os, h.tape, h.output, by have := h.size; simp; omega, fun i hi h1 h2 => (Below.heap_alloc w' o i (Nat.lt_of_lt_of_le hi h.size)).trans (h.block i hi h1 h2), h.at_⟩
theorem Ow.setFar {w : World} {B b : Nat} {v : Value} {xs : List Value} (h : Ow w B 5 v xs) (hne : v.ownBlock ≠ some b) (k : Nat) (u : Value) : Ow (w.setCell ⟨b, k, none⟩ u) B 5 v xs :=
  World.ownsRow.kept (row := some b) h ⟨rfl, rfl, rfl, by simp [World.setCell], fun i _ hk => Below.heap_setCell _ _ _ _ (fun e => hk (by simp [e]))⟩ (Or.inr hne)

end Go.Proofs.Ytlipmlbijddopaa
