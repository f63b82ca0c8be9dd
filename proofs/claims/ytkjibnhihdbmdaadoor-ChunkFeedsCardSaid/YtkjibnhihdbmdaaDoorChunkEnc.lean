/-
  Encode.
-/
import Derived.Test.YtkjibnhihdbmdaaDoorChunkHex
set_option linter.unusedVariables false
set_option linter.unusedSimpArgs false
namespace Go.Proofs.YtkjibnhihdbmdaaDoor
open Go.RowKit
def lt1 (z : Int) : Bool := decide (z < 1)
set_option maxRecDepth 100000 in
theorem encLt_at (z : Int) (w : World) : Calls Tryd.prog 43 #[.int .i64 z] w fun e w' => e = .returned (.bool (lt1 z)) ∧ w' = w := by
  unfold lt1
  go_enter Tryd.func43, Tryd.ntmps43
  go_wp2
  go_ret
  exact ⟨rfl, rfl⟩
set_option maxRecDepth 100000 in
set_option maxHeartbeats 400000 in
theorem encIdx_at (A : Option Addr) (c L : Nat) (zs : List Int) (w : World) (hL : zs.length = L) (h : Rd w w.heap.size A L (ic zs)) (hl : L ≤ 140737488355328) :
    Calls Tryd.prog 61 #[.slice A L c, .func (.func 43) #[] #[]] w fun e w' => ∃ i : Int, e = .returned (.int .i64 i) ∧ decide (0 ≤ i) = zs.any lt1 ∧ w' = w := by
  have HR := Lib.hid h
  have HL := Lib.hid hL
  clear h hL
  go_enter Tryd.func61, Tryd.ntmps61
  go_wp2_with fail
  go_loop [8] (fun vi => ∃ k : Nat, k ≤ L ∧ vi = .int .i64 k ∧ Hid (zs.any lt1 = (zs.drop k).any lt1)) (fun vi => L - (intOf vi).toNat)
  case atStart => exact ⟨0, Nat.zero_le _, rfl, Lib.hid rfl⟩
  case round =>
    obtain ⟨k, hk, rfl, HA⟩ := hrel
    by_cases hlt : k < L
    · obtain ⟨b, o, rfl, _, hc⟩ := HR.out.at_ hlt
      have hkz : k < zs.length := by have := HL.out; omega
      have hx := hc k _ (ic_get zs k hkz)
      obtain ⟨z, hz⟩ : ∃ z, z = zs[k] := ⟨_, rfl⟩
      rw [← hz] at hx
      have hd : zs.drop k = z :: zs.drop (k + 1) := by rw [hz]; exact List.drop_eq_getElem_cons hkz
      have HDr := Lib.hid hd
      clear hd hz hc
      by_cases h1 : lt1 z = true
      · go_wp2_with (go_at_call 43; refine (encLt_at z w).mono ?_; rw [h1]; rintro e w ⟨rfl, rfl⟩)
        go_ret
        exact ⟨_, rfl, by rw [HA.out, HDr.out]; simp [h1], rfl⟩
      · have h2 : lt1 z = false := by simpa using h1
        clear h1
        go_wp2_with (go_at_call 43; refine (encLt_at z w).mono ?_; rw [h2]; rintro e w ⟨rfl, rfl⟩)
        go_round
        case rel => exact ⟨k + 1, by omega, by go_num, Lib.hid (by rw [HA.out, HDr.out]; simp [h2])⟩
        case measure => simp [intOf]; omega
    · go_wp2
      go_ret
      exact ⟨_, rfl, by rw [HA.out, List.drop_of_length_le (by have := HL.out; omega)]; simp, rfl⟩
set_option maxRecDepth 100000 in
theorem encAny_at (A : Option Addr) (c L : Nat) (zs : List Int) (b : Bool) (w : World) (hb : zs.any lt1 = b) (hL : zs.length = L) (h : Rd w w.heap.size A L (ic zs)) (hl : L ≤ 140737488355328) :
    Calls Tryd.prog 42 #[.slice A L c, .func (.func 43) #[] #[]] w fun e w' => e = .returned (.bool b) ∧ w' = w := by
  have HR := Lib.hid h
  have HL := Lib.hid hL
  have HB := Lib.hid hb
  clear h hL hb
  go_enter Tryd.func42, Tryd.ntmps42
  go_wp2_with (go_at_call 61; refine (encIdx_at A c L zs w HL.out HR.out hl).mono ?_; rintro e w ⟨i, rfl, hi, rfl⟩; have HI := Lib.hid hi; clear hi)
  go_ret
  exact ⟨ret_bool (by rw [← HB.out]; exact HI.out), rfl⟩
end Go.Proofs.YtkjibnhihdbmdaaDoor
