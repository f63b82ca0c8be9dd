/-
  Several slices of the call's own, in different blocks.
-/
import Derived.Test.YtlipmlbijddopaaBase
set_option linter.unusedVariables false
set_option linter.unusedSimpArgs false
namespace Go.Proofs.Ytlipmlbijddopaa
open Go.RowKit
theorem ow_block_lt {w : World} {base : Nat} {e : TypeId} {v : Value} {xs : List Value} (h : Ow w base e v xs) : ∀ q, v.ownBlock = some q → q < w.heap.size := fun q hq => (World.ownsRow.lt h q hq).2
abbrev OwnL := List (TypeId × Value × List Value)
def Apart (x y : TypeId × Value × List Value) : Prop := ∀ q, x.2.1.ownBlock = some q → y.2.1.ownBlock ≠ some q
def Owns (w : World) (base : Nat) (l : OwnL) : Prop := (∀ x ∈ l, Ow w base x.1 x.2.1 x.2.2) ∧ l.Pairwise Apart
theorem Apart.symm {x y : TypeId × Value × List Value} (h : Apart x y) : Apart y x := fun q h1 h2 => h q h2 h1
theorem Owns.nil (w : World) (base : Nat) : Owns w base [] := ⟨fun _ h => (by cases h), List.Pairwise.nil⟩
theorem Owns.get {w : World} {base : Nat} {l : OwnL} (h : Owns w base l) {e : TypeId} {v : Value} {xs : List Value} (hx : (e, v, xs) ∈ l) : Ow w base e v xs := h.1 _ hx
theorem Owns.far {w w' : World} {base : Nat} {l : OwnL} (h : Owns w base l) (hb : Below w.heap.size w w') : Owns w' base l := ⟨fun x hx => (h.1 x hx).far hb, h.2⟩
theorem Owns.alloc {w : World} {base : Nat} {l : OwnL} (h : Owns w base l) (o : Obj) : Owns (w.alloc o) base l := ⟨fun x hx => (h.1 x hx).alloc o, h.2⟩
theorem Owns.step {w w' : World} {q base : Nat} {l : OwnL} (h : Owns w base l) (hq : w' = w.drewN q) : Owns w' base l := by subst hq; exact h
theorem Owns.perm {w : World} {base : Nat} {l l' : OwnL} (h : Owns w base l) (hp : l.Perm l') : Owns w base l' :=
  ⟨fun x hx => h.1 x (hp.mem_iff.2 hx), (hp.pairwise_iff (fun {_ _} h => Apart.symm h)).1 h.2⟩
/-- a slice without a block -/
theorem Owns.none {w : World} {base : Nat} {l : OwnL} (h : Owns w base l) (e : TypeId) : Owns w base ((e, .slice .none 0 0, []) :: l) :=
  ⟨fun x hx => by
    rcases List.mem_cons.1 hx with rfl | hx
    · exact Ow.nil _ _ _
    · exact h.1 x hx, List.pairwise_cons.2 ⟨fun y _ q h => by simp [Value.ownBlock] at h, h.2⟩⟩
/-- one more, from a call -/
theorem Owns.cons {w w' : World} {base : Nat} {l : OwnL} (h : Owns w base l) {e : TypeId} {v : Value} {xs : List Value} (hb : Below w.heap.size w w') (ho : Ow w' w.heap.size e v xs) (hB : base ≤ w.heap.size) : Owns w' base ((e, v, xs) :: l) := by
  refine ⟨fun x hx => ?_, List.pairwise_cons.2 ⟨fun y hy q h1 h2 => ?_, h.2⟩⟩
  · rcases List.mem_cons.1 hx with rfl | hx
    · exact ho.mono hB
    · exact (h.1 x hx).far hb
  · have h3 := ho.lt q h1
    have h4 := ow_block_lt (h.1 y hy) q h2
    omega
/-- an append onto the first one -/
theorem Owns.app {w w' : World} {base : Nat} {l : OwnL} {e : TypeId} {v v' : Value} {xs xs' : List Value} (h : Owns w base ((e, v, xs) :: l)) (hg : Gr w w' v v') (ho : Ow w' base e v' xs') : Owns w' base ((e, v', xs') :: l) := by
  have hp := List.pairwise_cons.1 h.2
  refine ⟨fun x hx => ?_, List.pairwise_cons.2 ⟨fun y hy q h1 h2 => ?_, hp.2⟩⟩
  · rcases List.mem_cons.1 hx with rfl | hx
    · exact ho
    · exact (h.1 x (List.mem_cons_of_mem _ hx)).kept hg (fun q h1 h2 => hp.1 x hx q h2 h1)
  · rcases hg.2 q h1 with h3 | h3
    · exact hp.1 y hy q h3 h2
    · have h4 := ow_block_lt (h.1 y (List.mem_cons_of_mem _ hy)) q h2
      omega
end Go.Proofs.Ytlipmlbijddopaa
