/-
  slices.ContainsFunc at the functions that the laws of layer 16 hand to it.
-/
import Derived.Test.YtnfgcfljjmjmpaaDoorReads
set_option linter.unusedVariables false
set_option linter.unusedSimpArgs false
namespace Go.Proofs.YtnfgcfljjmjmpaaDoor
open Go.RowKit

/-! ### gauger/gaugerlaw16.NameTells$1 handed to slices.ContainsFunc -/
def telP (x : List UInt8) : Bool := decide (300 < (x.length : Int))
theorem any_take {α : Type} (p : α → Bool) (l : List α) (k : Nat) (h : k < l.length) : (l.take (k + 1)).any p = ((l.take k).any p || p l[k]) := by
  rw [List.take_succ_eq_append_getElem h, List.any_append]; simp
def apfP (x : List UInt8) : Bool := decide (300 < (x.length : Int))
theorem any_take1 {α : Type} (p : α → Bool) (l : List α) (k : Nat) (h : k < l.length) : (l.take (k + 1)).any p = ((l.take k).any p || p l[k]) := by
  rw [List.take_succ_eq_append_getElem h, List.any_append]; simp
def nzP (x : UInt8) : Bool := ((x.toNat : Int) != 0)
theorem any_take2 {α : Type} (p : α → Bool) (l : List α) (k : Nat) (h : k < l.length) : (l.take (k + 1)).any p = ((l.take k).any p || p l[k]) := by
  rw [List.take_succ_eq_append_getElem h, List.any_append]; simp
end Go.Proofs.YtnfgcfljjmjmpaaDoor
