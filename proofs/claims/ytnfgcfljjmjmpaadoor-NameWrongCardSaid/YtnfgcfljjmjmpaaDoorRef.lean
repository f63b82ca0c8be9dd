/-
  The reference of layer 16: Size, small, lower, Right, Form: the same plain functions.
-/
import Derived.Test.YtnfgcfljjmjmpaaDoorForm
import Derived.Test.YtnfgcfljjmjmpaaDoorStr
import Derived.Deep.QuietTactic
import Derived.BigQuiet
import Derived.Deep.RegionHeld3
set_option linter.unusedVariables false
namespace Go.Proofs.YtnfgcfljjmjmpaaDoor
open Go.RowKit
theorem okL_len {l : List UInt8} (h : l.length < 1 ∨ 63 < l.length) : okL l = false := by
  unfold okL
  rcases h with h | h
  · have : l.length = 0 := by omega
    simp [this]
  · have : ¬ l.length ≤ 63 := by omega
    simp [this]
theorem okL_yes {l : List UInt8} (h1 : ¬ l.length < 1) (h2 : ¬ 63 < l.length) (h3 : smallS l = l) : okL l = true := by
  unfold okL
  rw [decide_eq_true (show l.length ≠ 0 by omega), decide_eq_true (show l.length ≤ 63 by omega), decide_eq_true h3]; rfl
/-- half of it made small, the rest zeros -/
def half (l : List UInt8) (k : Nat) : List UInt8 := smallS (l.take k) ++ List.replicate (l.length - k) 0
theorem half_zero (l : List UInt8) : half l 0 = List.replicate l.length 0 := by simp [half, smallS]
theorem half_all (l : List UInt8) (k : Nat) (h : l.length ≤ k) : half l k = smallS l := by
  unfold half
  rw [List.take_of_length_le h, Nat.sub_eq_zero_of_le h]; simp
theorem half_get (l : List UInt8) (k : Nat) (h : k < l.length) : (half l k)[k]? = some 0 := by
  unfold half
  have e : (smallS (l.take k)).length = k := by simp [smallS]; omega
  rw [List.getElem?_append_right (by omega), e, Nat.sub_self, List.getElem?_replicate_of_lt (by omega)]
theorem half_set (l : List UInt8) (k : Nat) (h : k < l.length) : (half l k).set k (smallB l[k]) = half l (k + 1) := by
  unfold half
  have e : List.replicate (l.length - k) (0 : UInt8) = 0 :: List.replicate (l.length - (k + 1)) 0 := by
    rw [show l.length - k = (l.length - (k + 1)) + 1 by omega, List.replicate_succ]
  have e2 : (smallS (l.take k)).length = k := by simp [smallS]; omega
  rw [e, List.set_append_right _ _ (by omega), e2, Nat.sub_self, List.take_succ_eq_append_getElem h]
  simp only [smallS, List.map_append, List.map_cons, List.map_nil, List.set_cons_zero, List.append_assoc, List.singleton_append]
theorem made_bytes (n : Nat) : madeCells (Value.int .u8 0).cells n = (bc (List.replicate n 0)).toArray := by
  apply Array.ext
  · simp [madeCells]
  · intro i h1 h2
    simp [madeCells, bc, Value.cells, Nat.mod_one]
theorem run_mkbytes (n : Nat) (hn : n ≤ 140737488355328) (W : World) : (Instr.makeSlice 28 (.int .i64 (n : Int)) (.int .i64 (n : Int))).run Tryd.prog W = .ok (.slice (some ⟨W.heap.size, 0, none⟩) n n) (W.alloc (.cells (bc (List.replicate n 0)).toArray 5)) := by
  obtain ⟨i0, hi, hz0, hz1, hz2⟩ := info_parts Tryd.infoByte
  have := run_make (P := Tryd.prog) W 28 5 i0 (.int .u8 0) Tryd.underlying28 hi hz0 .i64 .i64 n n (by omega) (by omega) (by rw [hz2]; omega) (by omega)
  rw [this, hz1]
  simp only [Nat.mul_one, Int.toNat_natCast]
  rw [made_bytes]

end Go.Proofs.YtnfgcfljjmjmpaaDoor
