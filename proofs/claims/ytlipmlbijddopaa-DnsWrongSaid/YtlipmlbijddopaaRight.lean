import Derived.Test.YtlipmlbijddopaaSize
import Derived.Test.YtlipmlbijddopaaSmall
set_option linter.unusedVariables false
namespace Go.Proofs.Ytlipmlbijddopaa
open Go.RowKit

def okL (l : List UInt8) : Bool := decide (l.length ≠ 0) && decide (l.length ≤ 63) && decide (smallS l = l)
def rightN (n : List (List UInt8)) : Bool := n.all okL && decide (sizeN n ≤ 255)
theorem mem_size {l : List UInt8} {n : List (List UInt8)} (h : l ∈ n) : 1 + l.length ≤ sizeN n := by
  induction n with
  | nil => cases h
  | cons a n ih =>
    simp only [sizeN]
    rcases List.mem_cons.1 h with rfl | h
    · omega
    · have := ih h; omega
theorem okL_take (n : List (List UInt8)) (k : Nat) (hk : k < n.length) (h : (n.take k).all okL = true) (ho : okL n[k] = true) : (n.take (k + 1)).all okL = true := by
  rw [List.take_succ_eq_append_getElem hk, List.all_append, h]; simp [ho]
theorem right_no (n : List (List UInt8)) (k : Nat) (hk : k < n.length) (ho : okL n[k] = false) : rightN n = false := by
  unfold rightN
  have : n.all okL = false := by
    rw [List.all_eq_false]
    exact ⟨n[k], List.getElem_mem hk, by simp [ho]⟩
  simp [this]
theorem right_end (n : List (List UInt8)) (k : Nat) (hk : n.length ≤ k) (h : (n.take k).all okL = true) : rightN n = decide (sizeN n ≤ 255) := by
  rw [List.take_of_length_le hk] at h
  unfold rightN
  rw [h]; simp

set_option maxRecDepth 100000 in
set_option maxHeartbeats 400000 in
theorem right_any (A : Option Addr) (c : Nat) (n : List (List UInt8)) (w : World) (h : Rd w w.heap.size A n.length (sc n)) (hs : sizeN n ≤ 140737488355328) :
    Calls Try.prog 61 #[.slice A n.length c] w fun e w' => e = .returned (.bool (rightN n)) ∧ Below w.heap.size w w' := by
  have hl := sizeN_length n
  go_enter Try.func61, Try.ntmps61
  go_wp2_with fail
  go_loopw [7] (fun i wr => ∃ k : Nat, k ≤ n.length ∧ i = .int .i64 k ∧ (n.take k).all okL = true ∧ Below w.heap.size w wr) (fun i _ => n.length - (intOf i).toNat)
  case atStart => exact ⟨0, Nat.zero_le _, rfl, rfl, Below.refl _ _⟩
  case round =>
    obtain ⟨k, hk, rfl, hall, hbel⟩ := hrel
    have hr := h.below hbel
    by_cases hlt : k < n.length
    · obtain ⟨b, o, rfl, _, hc⟩ := hr.at_ hlt
      have hcell := hc k _ (sc_get n k hlt)
      have hle := mem_size (List.getElem_mem hlt)
      have HA := Lib.hid hall
      clear hc h hr hall
      go_wp2_with (go_at_call 77; refine (small_any n[k] wr (by omega)).mono ?_; rintro e w2 ⟨rfl, hb2⟩)
      · have t1 : n[k] = [] := by assumption
        go_ret
        exact ⟨ret_bool (by rw [right_no n k hlt (by simp [okL, t1])]), hbel⟩
      · have t2 : (((n[k].length : Int) == 0) = true ∨ 63 < (n[k].length : Int)) ∨ (!smallS n[k] == n[k]) = true := by assumption
        have t1 : (n[k].length : Int) ≤ 63 := by assumption
        have t0 : ¬ n[k] = [] := by assumption
        have t3 : okL n[k] = false := by
          simp [t0] at t2
          rcases t2 with t2 | t2
          · omega
          · simp [okL, t2]
        go_ret
        exact ⟨ret_bool (by rw [right_no n k hlt t3]), hbel.trans (hb2.mono hbel.size)⟩
      · have t2 : (((n[k].length : Int) == 0) = false ∧ (n[k].length : Int) ≤ 63) ∧ (!smallS n[k] == n[k]) = false := by assumption
        have t0 : ¬ n[k] = [] := by assumption
        have t3 : okL n[k] = true := by
          obtain ⟨⟨_, t5⟩, t6⟩ := t2
          simp at t6
          simp [okL, t0, t6]; omega
        go_roundw
        case rel => exact ⟨k + 1, by omega, by go_num, okL_take n k hlt HA.out t3, hbel.trans (hb2.mono hbel.size)⟩
        case measure => simp [intOf]; omega
      · have t1 : 63 < (n[k].length : Int) := by assumption
        go_ret
        exact ⟨ret_bool (by rw [right_no n k hlt (by simp [okL]; omega)]), hbel⟩
    · have HA := Lib.hid hall
      clear hall
      go_wp2_with (go_at_call 78; refine (size_any A c n wr w.heap.size hr (by omega)).mono ?_; rintro e w2 ⟨rfl, rfl⟩)
      go_ret
      exact ⟨ret_bool (by rw [right_end n k (by omega) HA.out]; simp; omega), hbel⟩
end Go.Proofs.Ytlipmlbijddopaa
