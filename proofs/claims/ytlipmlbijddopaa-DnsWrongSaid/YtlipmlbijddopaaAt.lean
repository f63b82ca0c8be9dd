/-
  The contracts once more, lengths under names of their own, all at the top of the heap.
-/
import Derived.Test.YtlipmlbijddopaaMade
import Derived.Test.YtlipmlbijddopaaKnows
set_option linter.unusedVariables false
namespace Go.Proofs.Ytlipmlbijddopaa
open Go.RowKit
section
variable (w : World)
theorem made_at (A : Option Addr) (c L : Nat) (l : List (List UInt8)) (hL : l.length = L) (h : Rd w w.heap.size A L (sc l)) (hc : L ≤ c) (hb : L * 16 ≤ 140737488351232) (hx : ∀ x ∈ l, x.length ≤ 140737488351232) :
    Calls Try.prog 31 #[.slice A L c] w fun e w' => ∃ v, e = .returned v ∧ Ow w' w.heap.size 9 v (sc (madeN l)) ∧ Below w.heap.size w w' := by
  subst hL; exact made_any A c l w h hc hb hx
theorem sclone_at (A : Option Addr) (c L : Nat) (l : List (List UInt8)) (hL : l.length = L) (h : Rd w w.heap.size A L (sc l)) (hl : L * 16 ≤ 140737488355328) :
    Calls Try.prog 45 #[.slice A L c] w fun e w' => ∃ v, e = .returned v ∧ Ow w' w.heap.size 9 v (sc l) ∧ Below w.heap.size w w' := by
  subst hL; exact sclone A c l w w.heap.size (Nat.le_refl _) h hl
theorem seq_at (A1 A2 : Option Addr) (c1 c2 L1 L2 : Nat) (n z : List (List UInt8)) (r : Bool) (hr : decide (n = z) = r) (hL1 : n.length = L1) (hL2 : z.length = L2) (h1 : Rd w w.heap.size A1 L1 (sc n)) (h2 : Rd w w.heap.size A2 L2 (sc z)) (hl : L1 ≤ 140737488355328) (hm : L2 ≤ 140737488355328) :
    Calls Try.prog 55 #[.slice A1 L1 c1, .slice A2 L2 c2] w fun e w' => e = .returned (.bool r) ∧ ∃ q, w' = w.drewN q := by
  subst hL1 hL2 hr; exact seq_any A1 A2 c1 c2 n z w w.heap.size h1 h2 hl hm
theorem size_at (A : Option Addr) (c L : Nat) (n : List (List UInt8)) (s : Nat) (hs : sizeN n = s) (hL : n.length = L) (h : Rd w w.heap.size A L (sc n)) (hb : s ≤ 9223372036854775807) :
    Calls Try.prog 78 #[.slice A L c] w fun e w' => e = .returned (.int .i64 (s : Int)) ∧ w = w' := by
  subst hL hs; exact (size_any A c n w w.heap.size h hb).mono fun e w' h => ⟨h.1, h.2.symm⟩
theorem right_at (A : Option Addr) (c L : Nat) (n : List (List UInt8)) (r : Bool) (hr : rightN n = r) (hL : n.length = L) (h : Rd w w.heap.size A L (sc n)) (hs : sizeN n ≤ 140737488355328) :
    Calls Try.prog 61 #[.slice A L c] w fun e w' => e = .returned (.bool r) ∧ Below w.heap.size w w' := by
  subst hL hr; exact right_any A c n w h hs
theorem form_at (A : Option Addr) (c L : Nat) (n : List (List UInt8)) (hL : n.length = L) (h : Rd w w.heap.size A L (sc n)) (hr : rightN n = true) :
    Calls Try.prog 66 #[.slice A L c] w fun e w' => ∃ v, e = .returned (.tuple #[v, .int .i64 0]) ∧ Ow w' w.heap.size 5 v (bc (formN n)) ∧ Below w.heap.size w w' := by
  subst hL; exact form_ok A c n w h hr
theorem append_at (A1 A2 A3 : Option Addr) (c1 c2 c3 L1 L2 L3 : Nat) (b : List UInt8) (known : List Int) (n : List (List UInt8)) (hL1 : b.length = L1) (hL2 : known.length = L2) (hL3 : n.length = L3)
    (h1 : Rd w w.heap.size A1 L1 (bc b)) (hc1 : L1 ≤ c1) (hb : L1 ≤ 100000) (h2 : Rd w w.heap.size A2 L2 (ic known)) (hk : L2 ≤ 1000)
    (h3 : Rd w w.heap.size A3 L3 (sc n)) (hc3 : L3 ≤ c3) (hr : rightN n = true) :
    Calls Try.prog 65 #[.slice A1 L1 c1, .slice A2 L2 c2, .slice A3 L3 c3] w fun e w' => ∃ v, e = .returned (.tuple #[v, .int .i64 0]) ∧ Ow w' w.heap.size 5 v (bc (appN b known n)) ∧ Below w.heap.size w w' := by
  subst hL1 hL2 hL3
  have hcl : ∀ (f p : Nat), (chain b f p).length ≤ f := by
    intro f
    induction f with
    | zero => intro p; simp [chain]
    | succ f ih =>
      intro p
      rw [chain]
      split
      · rw [List.length_append]
        have := ih (p + (1 + (b.getD p 0).toNat))
        split <;> simp only [List.length_cons, List.length_nil] <;> omega
      · simp
  have hp1 : ∀ x, (place1 b x).length ≤ b.length + 1 := by
    intro x
    unfold place1
    split
    · have := hcl b.length x.toNat
      rw [List.length_cons]; omega
    · simp
  have hpu : ∀ k : List Int, (placesU b k).length ≤ k.length * (b.length + 1) := by
    intro k
    unfold placesU
    induction k with
    | nil => simp
    | cons x k ih =>
      rw [List.flatMap_cons, List.length_append, List.length_cons, Nat.add_mul, Nat.one_mul]
      have := hp1 x
      omega
  have h5 := hpu known
  have h6 : known.length * (b.length + 1) ≤ 1000 * 100001 := Nat.mul_le_mul hk (by omega)
  exact append_ok A1 A2 A3 c1 c2 c3 b known n w h1 hc1 (by omega) h2 (by omega) (by omega) h3 hc3 hr
end
end Go.Proofs.Ytlipmlbijddopaa
