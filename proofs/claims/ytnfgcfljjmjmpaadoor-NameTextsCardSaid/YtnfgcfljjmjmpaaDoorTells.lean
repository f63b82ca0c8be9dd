/-
  gaugerlaw16.tells: what the program and the reference tell of names and texts agrees.
-/
import Derived.Test.YtnfgcfljjmjmpaaDoorRefPP
import Derived.Test.YtnfgcfljjmjmpaaDoorJoins
set_option linter.unusedVariables false
set_option linter.unusedSimpArgs false
namespace Go.Proofs.YtnfgcfljjmjmpaaDoor
open Go.RowKit
def formR (n : List (List UInt8)) : List UInt8 × Nat := if rightN n = true then (formN n, 0) else ([], 160)
def textR (n : List (List UInt8)) : List UInt8 × Nat := if rightN n = true then (textN n, 0) else ([], 160)
section
variable (w : World)
theorem form_all (A : Option Addr) (c L : Nat) (n : List (List UInt8)) (F : List UInt8) (ef : Nat) (hF : formR n = (F, ef)) (hL : n.length = L) (h : Rd w w.heap.size A L (sc n)) (hs : sizeN n ≤ 140737488355328) :
    Calls Tryd.prog 14 #[.slice A L c] w fun e w' => ∃ v, e = .returned (.tuple #[v, .int .i64 (ef : Int)]) ∧ Ow w' w.heap.size 5 v (bc F) ∧ Below w.heap.size w w' := by
  subst hL
  unfold formR at hF
  by_cases hr : rightN n = true
  · rw [if_pos hr] at hF; cases hF
    exact form_ok A c n w h hr
  · rw [if_neg hr] at hF; cases hF
    refine (form_bad A c n w h (by simpa using hr) hs).mono ?_
    rintro e w' ⟨rfl, h⟩
    exact ⟨_, rfl, Ow.nil _ _ _, h⟩
theorem text_all (A : Option Addr) (c L : Nat) (n : List (List UInt8)) (F : List UInt8) (ef : Nat) (hF : textR n = (F, ef)) (hL : n.length = L) (h : Rd w w.heap.size A L (sc n)) (hs : sizeN n ≤ 140737488355328) :
    Calls Tryd.prog 7 #[.slice A L c] w fun e w' => e = .returned (.tuple #[.string ⟨F.toArray⟩, .int .i64 (ef : Int)]) ∧ Below w.heap.size w w' := by
  subst hL
  unfold textR at hF
  by_cases hr : rightN n = true
  · rw [if_pos hr] at hF; cases hF
    exact text_ok A c n w h hr
  · rw [if_neg hr] at hF; cases hF
    exact text_bad A c n w h (by simpa using hr) hs
end
theorem parse_all (s : List UInt8) (w : World) (q : List (List UInt8)) (ep : Nat) (hq : rparse s = (q, ep)) (hs : s.length ≤ 1000000) :
    Calls Tryd.prog 8 #[.string ⟨s.toArray⟩] w fun e w' => ∃ v, e = .returned (.tuple #[v, .int .i64 (ep : Int)]) ∧ Ow w' w.heap.size 9 v (sc q) ∧ Below w.heap.size w w' := by
  have h := parse_any s w (by omega)
  rw [← rparse_eq s, hq] at h
  exact h
theorem rparse_len (s : List UInt8) : (rparse s).1.length ≤ 255 := by
  unfold rparse
  split
  · simp
  · split
    · split
      · rename_i n _ h
        have := size_right h
        have := sizeN_length n
        simp only; omega
      · simp
    · simp
theorem ow_step {w w' : World} {base q : Nat} {e : TypeId} {v : Value} {xs : List Value} (h : Ow w base e v xs) (hq : w' = w.drewN q) : Ow w' base e v xs := by subst hq; exact h
end Go.Proofs.YtnfgcfljjmjmpaaDoor
