/-
  The digit of a size, and the byte that ends a line.
-/
import Derived.Test.YtkjibnhihdbmdaaDoorBase
import Derived.Test.YtkjibnhihdbmdaaDoorChunkP
import Derived.Test.YtkjibnhihdbmdaaDoorProg
set_option linter.unusedVariables false
set_option linter.unusedSimpArgs false
namespace Go.Proofs.YtkjibnhihdbmdaaDoor
open Go.RowKit
/-- as package chunk counts digits: -1 for none -/
def digI (c : UInt8) : Int := if dig c = 16 then -1 else (dig c : Int)
set_option maxRecDepth 100000 in
set_option maxHeartbeats 400000 in
theorem digit_at (c : UInt8) (w : World) : Calls Tryd.prog 77 #[.int .u8 (c.toNat : Int)] w fun e w' => e = .returned (.int .i64 (digI c)) ∧ w' = w := by
  have hlt : c.toNat < 256 := c.toNat_lt
  have hd : dig c = if 48 ≤ c.toNat ∧ c.toNat ≤ 57 then c.toNat - 48 else if 97 ≤ c.toNat ∧ c.toNat ≤ 102 then c.toNat - 87 else if 65 ≤ c.toNat ∧ c.toNat ≤ 70 then c.toNat - 55 else 16 := rfl
  obtain ⟨n, hn⟩ : ∃ n, n = c.toNat := ⟨_, rfl⟩
  have hr : ∀ z : Int, digI c = z → (∃ _u : Unit, True) := fun _ _ => ⟨(), trivial⟩
  unfold digI
  rw [hd, ← hn]
  rw [← hn] at hlt
  clear hd hr hn
  by_cases h1 : 48 ≤ n ∧ n ≤ 57
  · rw [if_pos h1, if_neg (by omega)]
    obtain ⟨a, b⟩ := h1
    go_enter Tryd.func77, Tryd.ntmps77
    go_wp2
    go_ret
    refine ⟨?_, rfl⟩
    go_num
  · by_cases h2 : 97 ≤ n ∧ n ≤ 102
    · rw [if_neg h1, if_pos h2, if_neg (by omega)]
      obtain ⟨a, b⟩ := h2
      go_enter Tryd.func77, Tryd.ntmps77
      go_wp2
      go_ret
      refine ⟨?_, rfl⟩
      go_num
    · by_cases h3 : 65 ≤ n ∧ n ≤ 70
      · rw [if_neg h1, if_neg h2, if_pos h3, if_neg (by omega)]
        obtain ⟨a, b⟩ := h3
        go_enter Tryd.func77, Tryd.ntmps77
        go_wp2
        go_ret
        refine ⟨?_, rfl⟩
        go_num
      · rw [if_neg h1, if_neg h2, if_neg h3, if_pos rfl]
        go_enter Tryd.func77, Tryd.ntmps77
        go_wp2
        all_goals go_ret
        all_goals exact ⟨rfl, rfl⟩
set_option maxRecDepth 100000 in
theorem end_at (c : UInt8) (w : World) : Calls Tryd.prog 99 #[.int .u8 (c.toNat : Int)] w fun e w' => e = .returned (.int .i64 (endE c)) ∧ w' = w := by
  unfold endE
  by_cases h : c = 10
  · subst h
    go_enter Tryd.func99, Tryd.ntmps99
    go_wp2
    go_ret
    exact ⟨rfl, rfl⟩
  · have hn : ¬ ((c.toNat : Int) = 10) := fun e => h (UInt8.toNat_inj.1 (by show c.toNat = 10; omega))
    rw [if_neg h]
    go_enter Tryd.func99, Tryd.ntmps99
    go_wp2
    go_ret
    exact ⟨rfl, rfl⟩
end Go.Proofs.YtkjibnhihdbmdaaDoor
