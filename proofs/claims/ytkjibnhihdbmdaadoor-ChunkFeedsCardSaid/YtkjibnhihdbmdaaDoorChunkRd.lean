/-
  The reference gaugerref19: a digit.
-/
import Derived.Test.YtkjibnhihdbmdaaDoorChunkRf
set_option linter.unusedVariables false
set_option linter.unusedSimpArgs false
namespace Go.Proofs.YtkjibnhihdbmdaaDoor
open Go.RowKit
def lo16 : ByteArray := ⟨#[48, 49, 50, 51, 52, 53, 54, 55, 56, 57, 97, 98, 99, 100, 101, 102]⟩
def up16 : ByteArray := ⟨#[48, 49, 50, 51, 52, 53, 54, 55, 56, 57, 65, 66, 67, 68, 69, 70]⟩
def loN (k : Nat) : Nat := if k < 10 then 48 + k else 87 + k
def upN (k : Nat) : Nat := if k < 10 then 48 + k else 55 + k
theorem dig_hit (c : UInt8) (k : Nat) (hk : k < 16) (h : c.toNat = loN k ∨ c.toNat = upN k) : dig c = k := by
  unfold loN upN at h
  unfold dig
  split at h <;> split <;> (try split) <;> (try split) <;> omega
theorem dig_miss (c : UInt8) (h : ∀ k, k < 16 → c.toNat ≠ loN k ∧ c.toNat ≠ upN k) : dig c = 16 := by
  unfold dig
  split
  · have := (h (c.toNat - 48) (by omega)).1
    unfold loN at this
    rw [if_pos (by omega)] at this
    omega
  · split
    · have := (h (c.toNat - 87) (by omega)).1
      unfold loN at this
      rw [if_neg (by omega)] at this
      omega
    · split
      · have := (h (c.toNat - 55) (by omega)).2
        unfold upN at this
        rw [if_neg (by omega)] at this
        omega
      · rfl
theorem lo16_at (d : Nat) (h2 : d < lo16.size) : ((lo16[d].toNat : Nat) : Int) = (loN d : Int) := by
  have : ∀ i : Fin 16, ((lo16.data.toList.getD i.1 0).toNat : Int) = (loN i.1 : Int) := by decide +kernel
  have := this ⟨d, h2⟩
  have h3 : d < lo16.data.toList.length := h2
  have e2 : lo16.data.toList.getD d 0 = lo16[d] := by rw [List.getD_eq_getElem?_getD, List.getElem?_eq_getElem h3]; rfl
  rw [← e2]; exact this
theorem up16_at (d : Nat) (h2 : d < up16.size) : ((up16[d].toNat : Nat) : Int) = (upN d : Int) := by
  have : ∀ i : Fin 16, ((up16.data.toList.getD i.1 0).toNat : Int) = (upN i.1 : Int) := by decide +kernel
  have := this ⟨d, h2⟩
  have h3 : d < up16.data.toList.length := h2
  have e2 : up16.data.toList.getD d 0 = up16[d] := by rw [List.getD_eq_getElem?_getD, List.getElem?_eq_getElem h3]; rfl
  rw [← e2]; exact this
set_option maxRecDepth 100000 in
set_option maxHeartbeats 1000000 in
theorem rdigit_at (c : UInt8) (w : World) : Calls Tryd.prog 80 #[.int .u8 (c.toNat : Int)] w fun e w' => e = .returned (.int .i64 (dig c : Int)) ∧ w' = w := by
  go_enter Tryd.func80, Tryd.ntmps80
  go_wp2_with fail
  go_loopw [5] (fun vi wr => ∃ k : Nat, k ≤ 16 ∧ vi = .int .i64 (k : Int) ∧ Hid (∀ j, j < k → c.toNat ≠ loN j ∧ c.toNat ≠ upN j) ∧ wr = w) (fun vi _ => 16 - (intOf vi).toNat)
  case atStart => exact ⟨0, by omega, rfl, Lib.hid (fun j hj => by omega), rfl⟩
  case round =>
    obtain ⟨k, hk, rfl, HM, rfl⟩ := hrel
    by_cases h16 : k < 16
    · have hl1 : ((({ data := #[48, 49, 50, 51, 52, 53, 54, 55, 56, 57, 97, 98, 99, 100, 101, 102] } : ByteArray)[k]'h16).toNat : Int) = (loN k : Int) := lo16_at k h16
      have hl2 : ((({ data := #[48, 49, 50, 51, 52, 53, 54, 55, 56, 57, 65, 66, 67, 68, 69, 70] } : ByteArray)[k]'h16).toNat : Int) = (upN k : Int) := up16_at k h16
      by_cases ha : c.toNat = loN k
      · have hd := dig_hit c k h16 (.inl ha)
        have HD := Lib.hid hd
        have ha2 : ((loN k : Int) == (c.toNat : Int)) = true := by rw [ha]; simp
        clear hd ha
        go_wp2
        go_ret
        exact ⟨by rw [HD.out] <;> rfl, rfl⟩
      · have ha2 : ((loN k : Int) == (c.toNat : Int)) = false := beq_eq_false_iff_ne.2 (by omega)
        by_cases hb : c.toNat = upN k
        · have hd := dig_hit c k h16 (.inr hb)
          have HD := Lib.hid hd
          have hb2 : ((upN k : Int) == (c.toNat : Int)) = true := by rw [hb]; simp
          clear hd ha hb
          go_wp2
          go_ret
          exact ⟨by rw [HD.out] <;> rfl, rfl⟩
        · have hb2 : ((upN k : Int) == (c.toNat : Int)) = false := beq_eq_false_iff_ne.2 (by omega)
          have HN := Lib.hid (And.intro ha hb)
          clear ha hb
          go_wp2_with fail
          go_roundw
          case rel =>
            refine ⟨k + 1, by omega, by go_num, Lib.hid ?_, by trivial⟩
            intro j hj
            rcases Nat.lt_or_ge j k with h | h
            · exact HM.out j h
            · obtain rfl : j = k := by omega
              exact HN.out
          case measure => simp [intOf]; omega
    · obtain rfl : k = 16 := by omega
      have hd := dig_miss c HM.out
      have HD := Lib.hid hd
      clear hd
      go_wp2
      go_ret
      exact ⟨by rw [HD.out] <;> rfl, rfl⟩
end Go.Proofs.YtkjibnhihdbmdaaDoor
