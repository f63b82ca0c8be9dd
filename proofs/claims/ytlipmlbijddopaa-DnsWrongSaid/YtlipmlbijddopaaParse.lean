import Derived.Test.YtlipmlbijddopaaStr
import Derived.Test.YtlipmlbijddopaaText
import Derived.RegionTactic
import Derived.ChangeAlike
import Derived.StillTailTactics
set_option linter.unusedVariables false
namespace Go.Proofs.Ytlipmlbijddopaa
open Go.RowKit

/-- three digits, as a byte -/
def num3 (a b c : UInt8) : UInt8 := UInt8.ofNat ((a - 48).toNat * 100 + (b - 48).toNat * 10 + (c - 48).toNat)
/-- reading on, with fuel -/
def pl (s : List UInt8) : Nat → Nat → List (List UInt8) → List UInt8 → List (List UInt8)
  | 0, _, pre, last => pre ++ [last]
  | f + 1, i, pre, last =>
    if i < s.length then
      if s.getD i 0 = 46 then pl s f (i + 1) (pre ++ [last]) []
      else if s.getD i 0 ≠ 92 then pl s f (i + 1) pre (last ++ [s.getD i 0])
      else if i + 1 < s.length ∧ (s.getD (i + 1) 0 = 46 ∨ s.getD (i + 1) 0 = 92) then pl s f (i + 2) pre (last ++ [s.getD (i + 1) 0])
      else if i + 3 < s.length then pl s f (i + 4) pre (last ++ [num3 (s.getD (i + 1) 0) (s.getD (i + 2) 0) (s.getD (i + 3) 0)])
      else pl s f (i + 1) pre last
    else pre ++ [last]
def parseN (s : List UInt8) : List (List UInt8) × Int :=
  if smallS s = [46] then ([], 0)
  else if 1020 < s.length then ([], 164)
  else if rightN (pl (smallS s) (s.length + 1) 0 [] []) = true ∧ textN (pl (smallS s) (s.length + 1) 0 [] []) = smallS s then (pl (smallS s) (s.length + 1) 0 [] [], 0)
  else ([], 164)

/-- behind a store into the last label -/
theorem last_set {wr : World} {B g cap : Nat} {pre : List (List UInt8)} {last last' : List UInt8} (hown : wr.ownsRow B 9 1 (.slice (some ⟨g, 0, none⟩) (pre.length + 1) cap) (pre.length + 1) (sc (pre ++ [last]))) :
    Ow (wr.setCell ⟨g, pre.length, none⟩ (.string ⟨last'.toArray⟩)) B 9 (.slice (some ⟨g, 0, none⟩) (pre.length + 1) cap) (sc (pre ++ [last'])) := by
  have h := (World.ownsRow.stored hown pre.length (.string ⟨last'.toArray⟩)).1
  have e1 : (sc (pre ++ [last])).set pre.length (.string ⟨last'.toArray⟩) = sc (pre ++ [last']) := by
    unfold sc
    rw [List.map_append, List.map_append, List.set_append_right _ _ (by simp)]
    simp [strV]
  rw [e1] at h
  unfold Ow
  rw [sc_length, List.length_append, List.length_singleton]
  exact h
theorem size_set (pre : List (List UInt8)) (last last' : List UInt8) : sizeN (pre ++ [last']) + last.length = sizeN (pre ++ [last]) + last'.length := by
  have h1 := sizeN_append pre [last]
  have h2 := sizeN_append pre [last']
  simp only [sizeN] at h1 h2
  omega
end Go.Proofs.Ytlipmlbijddopaa
