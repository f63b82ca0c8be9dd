import Derived.Test.YtlipmlbijddopaaAwk
import Derived.Test.YtlipmlbijddopaaEndsP
import Derived.Test.YtlipmlbijddopaaStr
import Derived.Deep.QuietTactic
import Derived.BigQuiet
set_option linter.unusedVariables false
set_option linter.unusedSimpArgs false
namespace Go.Proofs.Ytlipmlbijddopaa
open Go.RowKit
theorem Rd.pre {w : World} {B n : Nat} {A : Option Addr} {xs : List Value} (h : Rd w B A n xs) {k : Nat} (hk : k ≤ n) : Rd w B A k (xs.take k) := by
  refine ⟨by rw [List.length_take, h.1]; omega, fun h0 => ?_⟩
  obtain ⟨b, o, e, hb, hc⟩ := h.2 (by omega)
  refine ⟨b, o, e, hb, fun j u hu => hc j u ?_⟩
  rcases Nat.lt_or_ge j k with h1 | h1
  · rwa [List.getElem?_take_of_lt h1] at hu
  · rw [List.getElem?_eq_none (by rw [List.length_take]; omega)] at hu; cases hu
theorem Rd.preB {w : World} {B n : Nat} {A : Option Addr} {l : List UInt8} (h : Rd w B A n (bc l)) {k : Nat} (hk : k ≤ n) : Rd w B A k (bc (l.take k)) := by
  have := h.pre hk
  simp only [bc, List.map_take] at this ⊢
  exact this
theorem bc_append (a b : List UInt8) : bc (a ++ b) = bc a ++ bc b := by simp [bc]
theorem bclone_at (A : Option Addr) (c L : Nat) (l : List UInt8) (w : World) (B : Nat) (hL : l.length = L) (hB : B ≤ w.heap.size) (h : Rd w B A L (bc l)) (hl : L ≤ 140737488355328) :
    Calls Try.prog 7 #[.slice A L c] w fun e w' => ∃ v, e = .returned v ∧ Ow w' w.heap.size 5 v (bc l) ∧ Below w.heap.size w w' := by
  subst hL
  exact bclone A c l w B hB h hl
/-- the contract of Read, the length and the offset under names of their own -/
theorem read_at (A : Option Addr) (c L : Nat) (b : List UInt8) (p : Nat) (w : World) (r : List (List UInt8) × Nat × Nat) (hL : b.length = L) (hr : readN b p = r) (h : Rd w w.heap.size A L (bc b)) (hcap : L ≤ c) (hb : L ≤ 140737488355328) (hp : p ≤ L) :
    Calls Try.prog 82 #[.slice A L c, .int .i64 p] w fun e w' => ∃ v, e = .returned (.tuple #[v, .int .i64 r.2.1, .int .i64 r.2.2]) ∧ Ow w' w.heap.size 9 v (sc r.1) ∧ Below w.heap.size w w' := by
  subst hL hr
  exact read_any A c b p w h hcap hb hp
end Go.Proofs.Ytlipmlbijddopaa
