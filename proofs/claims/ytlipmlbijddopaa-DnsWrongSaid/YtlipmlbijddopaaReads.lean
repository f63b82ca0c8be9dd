/-
  gaugerlaw16.reads: Read and the reference's Read agree on any bytes at any offset; a loop that overwrites what is the call's own.
-/
import Derived.Test.YtlipmlbijddopaaEnds
import Derived.Test.YtlipmlbijddopaaRefRd
import Derived.Test.YtlipmlbijddopaaPlaces
set_option linter.unusedVariables false
set_option linter.unusedSimpArgs false
namespace Go.Proofs.Ytlipmlbijddopaa
open Go.RowKit
def readZ (b : List UInt8) (x : Int) : List (List UInt8) × Nat × Nat := if 0 ≤ x ∧ x ≤ b.length then readN b x.toNat else ([], 0, 2)
theorem readZ_any (A : Option Addr) (c L : Nat) (b : List UInt8) (x : Int) (w : World) (hL : b.length = L) (h : Rd w w.heap.size A L (bc b)) (hcap : L ≤ c) (hb : L ≤ 140737488355328) :
    Calls Try.prog 82 #[.slice A L c, .int .i64 x] w fun e w' => ∃ v, e = .returned (.tuple #[v, .int .i64 (readZ b x).2.1, .int .i64 (readZ b x).2.2]) ∧ Ow w' w.heap.size 9 v (sc (readZ b x).1) ∧ Below w.heap.size w w' := by
  subst hL
  unfold readZ
  by_cases hx : 0 ≤ x ∧ x ≤ b.length
  · rw [if_pos hx]
    have := read_any A c b x.toNat w h hcap hb (by omega)
    rw [show ((x.toNat : Nat) : Int) = x by omega] at this
    exact this
  · rw [if_neg hx]
    refine (read_arg A c b x w (by omega)).mono ?_
    rintro e w' ⟨rfl, rfl⟩
    exact ⟨_, rfl, Ow.nil _ _ _, Below.refl _ _⟩
theorem rreadZ_any (A : Option Addr) (c L : Nat) (b : List UInt8) (x : Int) (w : World) (hL : b.length = L) (h : Rd w w.heap.size A L (bc b)) (hcap : L ≤ c) (hb : L ≤ 140737488355328) :
    Calls Try.prog 70 #[.slice A L c, .int .i64 x] w fun e w' => ∃ v, e = .returned (.tuple #[v, .int .i64 (readZ b x).2.1, .int .i64 (readZ b x).2.2]) ∧ Ow w' w.heap.size 9 v (sc (readZ b x).1) ∧ Below w.heap.size w w' := by
  subst hL
  unfold readZ
  by_cases hx : 0 ≤ x ∧ x ≤ b.length
  · rw [if_pos hx]
    have := rread_any A c b x.toNat w h hcap hb (by omega)
    rw [show ((x.toNat : Nat) : Int) = x by omega] at this
    exact this
  · rw [if_neg hx]
    refine (rread_arg A c b x w (by omega)).mono ?_
    rintro e w' ⟨rfl, rfl⟩
    exact ⟨_, rfl, Ow.nil _ _ _, Below.refl _ _⟩
theorem beq_at (A1 A2 : Option Addr) (c1 c2 L1 L2 : Nat) (l m : List UInt8) (w : World) (B : Nat) (h1' : l.length = L1) (h2' : m.length = L2) (h1 : Rd w B A1 L1 (bc l)) (h2 : Rd w B A2 L2 (bc m)) :
    Calls Try.prog 22 #[.slice A1 L1 c1, .slice A2 L2 c2] w fun e w' => e = .returned (.bool (decide (l = m))) ∧ w' = w := by
  subst h1' h2'
  exact beq_any A1 A2 c1 c2 l m w B h1 h2
/-- behind a store into another block of the call's own -/
theorem Ow.other {w : World} {base base' : Nat} {e e' : TypeId} {v : Value} {xs ys : List Value} {g n c : Nat} (h : Ow w base e v xs) (h' : w.ownsRow base' e' 1 (.slice (some ⟨g, 0, none⟩) n c) n ys) (hg : g < base) (k : Nat) (u : Value) : Ow (w.setCell ⟨g, k, none⟩ u) base e v xs :=
  World.ownsRow.kept (row := some g) h (World.ownsRow.stored h' k u).2 (by
    cases hv : v.ownBlock with
    | none => exact .inl rfl
    | some q => exact .inr (fun e => by injection e with e; have := h.lt q hv; omega))
theorem bc_bump (l : List UInt8) (k : Nat) (hk : k < l.length) : (bc l).set k (.int .u8 (((l[k].toNat : Int) + 1) % 256)) = bc (l.set k (l[k] + 1)) := by
  have e : (((l[k].toNat : Int) + 1) % 256) = (((l[k] + 1).toNat : Nat) : Int) := by rw [UInt8.toNat_add]; simp
  rw [e, bc_set]
theorem Ow.len {w : World} {base : Nat} {e : TypeId} {A : Option Addr} {n c : Nat} {xs : List Value} (h : Ow w base e (.slice A n c) xs) : xs.length = n := by
  obtain ⟨A', c', h1, _⟩ := h.form
  injection h1 with _ h2 _
  exact h2.symm
theorem Ow.addr_lt {w : World} {base : Nat} {e : TypeId} {A : Option Addr} {n c : Nat} {xs : List Value} (h : Ow w base e (.slice A n c) xs) : ∀ a, A = some a → a.block < w.heap.size := by
  rcases h.2 with ⟨h', _⟩ | ⟨g, cap, cur, h', _, hg, _⟩
  · intro a ha; injection h' with h1; rw [h1] at ha; cases ha
  · intro a ha
    injection h' with h1
    rw [h1] at ha
    cases ha
    rcases Nat.lt_or_ge g w.heap.size with h2 | h2
    · exact h2
    · rw [Array.getElem?_eq_none h2] at hg; cases hg
theorem Ow.row {w : World} {base g : Nat} {e : TypeId} {n c : Nat} {xs : List Value} (h : Ow w base e (.slice (some ⟨g, 0, none⟩) n c) xs) : w.ownsRow base e 1 (.slice (some ⟨g, 0, none⟩) n c) n xs := by
  have hl := h.len
  subst hl
  exact h
theorem Ow.cell_at {w : World} {base g : Nat} {e : TypeId} {n c : Nat} {xs : List Value} (h : Ow w base e (.slice (some ⟨g, 0, none⟩) n c) xs) (k : Nat) (hk : k < n) : w.cell? ⟨g, k, none⟩ = xs[k]? := World.ownsRow.cellAt h.row k (by omega)
theorem Ow.frozen_at {w : World} {base g : Nat} {e : TypeId} {n c : Nat} {xs : List Value} (h : Ow w base e (.slice (some ⟨g, 0, none⟩) n c) xs) (k : Nat) : w.frozen? ⟨g, k, none⟩ = false := World.ownsRow.frozenAt h.row k
theorem Ow.set_at {w : World} {base g : Nat} {e : TypeId} {n c : Nat} {xs : List Value} (h : Ow w base e (.slice (some ⟨g, 0, none⟩) n c) xs) (k : Nat) (u : Value) : Ow (w.setCell ⟨g, k, none⟩ u) base e (.slice (some ⟨g, 0, none⟩) n c) (xs.set k u) := by
  have h1 := (World.ownsRow.stored h.row k u).1
  have hl := h.len
  unfold Ow
  rw [List.length_set, hl]
  exact h1
end Go.Proofs.Ytlipmlbijddopaa
