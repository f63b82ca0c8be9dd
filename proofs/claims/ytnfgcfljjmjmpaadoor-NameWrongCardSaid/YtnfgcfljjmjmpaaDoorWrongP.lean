/-
  Names that are not right: plain.
-/
import Derived.Test.YtnfgcfljjmjmpaaDoorMade
import Derived.Test.YtnfgcfljjmjmpaaDoorReads
set_option linter.unusedVariables false
set_option linter.unusedSimpArgs false
namespace Go.Proofs.YtnfgcfljjmjmpaaDoor
open Go.RowKit
theorem wrong_set (n : List (List UInt8)) (k : Nat) (hk : k < n.length) (x : List UInt8) (hx : okL x = false) : rightN (n.set k x) = false := by
  unfold rightN
  rw [Bool.and_eq_false_iff]
  refine .inl ?_
  rw [List.all_eq_false]
  exact ⟨x, List.mem_iff_getElem.2 ⟨k, by simpa using hk, by simp⟩, by simp [hx]⟩
theorem wrong_size (n : List (List UInt8)) (h : 255 < sizeN n) : rightN n = false := by
  unfold rightN
  rw [Bool.and_eq_false_iff]
  exact .inr (decide_eq_false (by omega))
theorem wsize_set : ∀ (n : List (List UInt8)) (k : Nat) (x : List UInt8), sizeN (n.set k x) ≤ sizeN n + x.length
  | [], k, x => by simp
  | l :: n, 0, x => by simp only [List.set_cons_zero, sizeN]; omega
  | l :: n, k + 1, x => by
    have := wsize_set n k x
    simp only [List.set_cons_succ, sizeN]; omega
theorem wsize_rep (x : List UInt8) : ∀ j, sizeN (List.replicate j x) = 1 + j * (1 + x.length)
  | 0 => by simp [sizeN]
  | j + 1 => by rw [List.replicate_succ]; simp only [sizeN]; rw [wsize_rep x j, Nat.succ_mul]; omega
theorem size_app (n m : List (List UInt8)) : sizeN (n ++ m) + 1 = sizeN n + sizeN m := sizeN_append n m
theorem okL_nil : okL [] = false := by decide
theorem okL_long (x : List UInt8) (h : 63 < x.length) : okL x = false := by
  unfold okL
  rw [Bool.and_eq_false_iff, Bool.and_eq_false_iff]
  exact .inl (.inr (decide_eq_false (by omega)))
theorem okL_big (x : List UInt8) (c : UInt8) (h : smallB c ≠ c) : okL (x ++ [c]) = false := by
  unfold okL
  rw [Bool.and_eq_false_iff]
  refine .inr (decide_eq_false fun e => h ?_)
  unfold smallS at e
  rw [List.map_append] at e
  have := (List.append_inj e (by simp)).2
  simpa using this
theorem small_up : ∀ i : Fin 26, smallB (UInt8.ofNat (65 + i.1)) ≠ UInt8.ofNat (65 + i.1) := by decide
theorem rep_same : ∀ (l : List UInt8) (n : Nat) , Lib.repeatL [l.headD 0] n = List.replicate n (l.headD 0)
  | l, 0 => rfl
  | l, n + 1 => by rw [Lib.repeatL, rep_same l n]; rfl
theorem rep_one (c : UInt8) : ∀ n, Lib.repeatL [c] n = List.replicate n c
  | 0 => rfl
  | n + 1 => by rw [Lib.repeatL, rep_one c n]; rfl
theorem readZ_out (b : List UInt8) (x : Int) (h : x < 0 ∨ (b.length : Int) < x) : readZ b x = ([], 0, 2) := by
  unfold readZ
  rw [if_neg (by omega)]
end Go.Proofs.YtnfgcfljjmjmpaaDoor
