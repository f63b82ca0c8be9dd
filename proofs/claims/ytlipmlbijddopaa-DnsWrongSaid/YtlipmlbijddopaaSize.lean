import Derived.Test.YtlipmlbijddopaaBase
import Derived.Test.YtlipmlbijddopaaProg
namespace Go.Proofs.Ytlipmlbijddopaa
open Go.RowKit

/-- the number of bytes of a name -/
def sizeN : List (List UInt8) → Nat
  | [] => 1
  | l :: n => 1 + l.length + sizeN n
theorem sizeN_append (n m : List (List UInt8)) : sizeN (n ++ m) + 1 = sizeN n + sizeN m := by
  induction n with
  | nil => simp [sizeN]; omega
  | cons a n ih => simp [sizeN]; omega
theorem sizeN_take (n : List (List UInt8)) (k : Nat) (h : k < n.length) : sizeN (n.take (k + 1)) = sizeN (n.take k) + (1 + n[k].length) := by
  have := sizeN_append (n.take k) [n[k]]
  rw [List.take_succ_eq_append_getElem h]
  simp [sizeN] at this ⊢; omega
theorem sizeN_take_le (n : List (List UInt8)) (k : Nat) : sizeN (n.take k) ≤ sizeN n := by
  have := sizeN_append (n.take k) (n.drop k)
  rw [List.take_append_drop] at this
  have : 1 ≤ sizeN (n.drop k) := by cases n.drop k <;> simp [sizeN]; omega
  omega
theorem sizeN_length (n : List (List UInt8)) : n.length < sizeN n := by
  induction n with
  | nil => simp [sizeN]
  | cons a n ih => simp [sizeN]; omega
set_option maxHeartbeats 400000 in
theorem size_any (A : Option Addr) (c : Nat) (n : List (List UInt8)) (w : World) (B : Nat) (h : Rd w B A n.length (sc n)) (hs : sizeN n ≤ 9223372036854775807) :
    Calls Try.prog 78 #[.slice A n.length c] w fun e w' => e = .returned (.int .i64 (sizeN n)) ∧ w' = w := by
  have hl := sizeN_length n
  go_enter Try.func78, Try.ntmps78
  go_wp2
  go_loop [3, 8] (fun s i => ∃ k : Nat, k ≤ n.length ∧ i = .int .i64 k ∧ s = .int .i64 (sizeN (n.take k))) (fun _ i => n.length - (intOf i).toNat)
  case atStart => exact ⟨0, Nat.zero_le _, rfl, rfl⟩
  case round =>
    obtain ⟨k, hk, rfl, rfl⟩ := hrel
    by_cases hlt : k < n.length
    · obtain ⟨b, o, rfl, _, hc⟩ := h.at_ hlt
      have hcell := hc k _ (sc_get n k hlt)
      have hst := sizeN_take n k hlt
      have hle := sizeN_take_le n (k + 1)
      have hle1 : sizeN (n.take k) + (1 + n[k].length) ≤ 9223372036854775807 := by omega
      have HS := Lib.hid hst
      clear hst hle hc h
      go_wp2
      go_round
      case rel => exact ⟨k + 1, by omega, by go_num, by rw [HS.out]; go_num⟩
      case measure => simp [intOf]; omega
    · go_wp2
      go_ret
      have : k = n.length := by omega
      subst this
      simp
end Go.Proofs.Ytlipmlbijddopaa
