/-
  The reference of layer 16: Size, small, lower, Right, Form: the same plain functions.
-/
import Derived.Test.YtlipmlbijddopaaForm
import Derived.Test.YtlipmlbijddopaaStr
import Derived.Deep.QuietTactic
import Derived.BigQuiet
import Derived.Deep.RegionHeld3
set_option linter.unusedVariables false
namespace Go.Proofs.Ytlipmlbijddopaa
open Go.RowKit
theorem okL_len {l : List UInt8} (h : l.length < 1 ∨ 63 < l.length) : okL l = false := by
  unfold okL
  rcases h with h | h
  · have : l.length = 0 := by omega
    simp [this]
  · have : ¬ l.length ≤ 63 := by omega
    simp [this]
theorem okL_yes {l : List UInt8} (h1 : ¬ l.length < 1) (h2 : ¬ 63 < l.length) (h3 : smallS l = l) : okL l = true := by
  unfold okL
  rw [decide_eq_true (show l.length ≠ 0 by omega), decide_eq_true (show l.length ≤ 63 by omega), decide_eq_true h3]; rfl
set_option maxHeartbeats 400000 in
theorem rsize_any (A : Option Addr) (c : Nat) (n : List (List UInt8)) (w : World) (B : Nat) (h : Rd w B A n.length (sc n)) (hs : sizeN n ≤ 9223372036854775807) :
    Calls Try.prog 73 #[.slice A n.length c] w fun e w' => e = .returned (.int .i64 (sizeN n)) ∧ w' = w := by
  have hl := sizeN_length n
  go_enter Try.func73, Try.ntmps73
  go_wp2
  go_loop [3, 4] (fun s i => ∃ k : Nat, k ≤ n.length ∧ i = .int .i64 k ∧ s = .int .i64 (sizeN (n.take k))) (fun _ i => n.length - (intOf i).toNat)
  case atStart => exact ⟨0, Nat.zero_le _, rfl, rfl⟩
  case round =>
    obtain ⟨k, hk, rfl, rfl⟩ := hrel
    by_cases hlt : k < n.length
    · obtain ⟨b, o, rfl, _, hc⟩ := h.at_ hlt
      have hcell := hc k _ (sc_get n k hlt)
      have hst := sizeN_take n k hlt
      have hle := sizeN_take_le n (k + 1)
      have hle1 : sizeN (n.take k) + (1 + n[k].length) ≤ 9223372036854775807 := by omega
      have HS := Lib.hid hst
      clear hst hle hc h
      go_wp2
      go_round
      case rel => exact ⟨k + 1, by omega, by go_num, by rw [HS.out]; go_num⟩
      case measure => simp [intOf]; omega
    · go_wp2
      go_ret
      have : k = n.length := by omega
      subst this
      simp

theorem rsmall_any (c : UInt8) (w : World) : Calls Try.prog 86 #[.int .u8 (c.toNat : Int)] w fun e w' => e = .returned (.int .u8 ((smallB c).toNat : Int)) ∧ w' = w := by
  have hc : (c.toNat : Int) < 256 := by have := c.toNat_lt; omega
  by_cases h1 : 65 ≤ (c.toNat : Int)
  · by_cases h2 : (c.toNat : Int) ≤ 90
    · have e := smallB_yes c h1 h2
      have H := Lib.hid e
      clear e
      go_enter Try.func86, Try.ntmps86
      go_wp2
      go_ret
      exact ⟨by rw [H.out]; exact ret_int (by omega), rfl⟩
    · have e := smallB_no c (fun h => h2 h.2)
      have H := Lib.hid e
      clear e
      go_enter Try.func86, Try.ntmps86
      go_wp2
      go_ret
      exact ⟨by rw [H.out]; rfl, rfl⟩
  · have e := smallB_no c (fun h => h1 h.1)
    have H := Lib.hid e
    clear e
    go_enter Try.func86, Try.ntmps86
    go_wp2
    go_ret
    exact ⟨by rw [H.out]; rfl, rfl⟩

/-- half of it made small, the rest zeros -/
def half (l : List UInt8) (k : Nat) : List UInt8 := smallS (l.take k) ++ List.replicate (l.length - k) 0
theorem half_zero (l : List UInt8) : half l 0 = List.replicate l.length 0 := by simp [half, smallS]
theorem half_all (l : List UInt8) (k : Nat) (h : l.length ≤ k) : half l k = smallS l := by
  unfold half
  rw [List.take_of_length_le h, Nat.sub_eq_zero_of_le h]; simp
theorem half_get (l : List UInt8) (k : Nat) (h : k < l.length) : (half l k)[k]? = some 0 := by
  unfold half
  have e : (smallS (l.take k)).length = k := by simp [smallS]; omega
  rw [List.getElem?_append_right (by omega), e, Nat.sub_self, List.getElem?_replicate_of_lt (by omega)]
theorem half_set (l : List UInt8) (k : Nat) (h : k < l.length) : (half l k).set k (smallB l[k]) = half l (k + 1) := by
  unfold half
  have e : List.replicate (l.length - k) (0 : UInt8) = 0 :: List.replicate (l.length - (k + 1)) 0 := by
    rw [show l.length - k = (l.length - (k + 1)) + 1 by omega, List.replicate_succ]
  have e2 : (smallS (l.take k)).length = k := by simp [smallS]; omega
  rw [e, List.set_append_right _ _ (by omega), e2, Nat.sub_self, List.take_succ_eq_append_getElem h]
  simp only [smallS, List.map_append, List.map_cons, List.map_nil, List.set_cons_zero, List.append_assoc, List.singleton_append]
theorem made_bytes (n : Nat) : madeCells (Value.int .u8 0).cells n = (bc (List.replicate n 0)).toArray := by
  apply Array.ext
  · simp [madeCells]
  · intro i h1 h2
    simp [madeCells, bc, Value.cells, Nat.mod_one]
theorem run_mkbytes (n : Nat) (hn : n ≤ 140737488355328) (W : World) : (Instr.makeSlice 22 (.int .i64 (n : Int)) (.int .i64 (n : Int))).run Try.prog W = .ok (.slice (some ⟨W.heap.size, 0, none⟩) n n) (W.alloc (.cells (bc (List.replicate n 0)).toArray 5)) := by
  obtain ⟨i0, hi, hz0, hz1, hz2⟩ := info_parts Try.infoByte
  have := run_make (P := Try.prog) W 22 5 i0 (.int .u8 0) Try.underlying22 hi hz0 .i64 .i64 n n (by omega) (by omega) (by rw [hz2]; omega) (by omega)
  rw [this, hz1]
  simp only [Nat.mul_one, Int.toNat_natCast]
  rw [made_bytes]

set_option maxRecDepth 100000 in
set_option maxHeartbeats 400000 in
theorem rlower_any (l : List UInt8) (w : World) (hl : l.length ≤ 140737488355328) :
    Calls Try.prog 72 #[.string ⟨l.toArray⟩] w fun e w' => e = .returned (.string ⟨(smallS l).toArray⟩) ∧ Below w.heap.size w w' := by
  have hmk := run_mkbytes l.length hl
  obtain ⟨g, hg⟩ : ∃ g, g = w.heap.size := ⟨_, rfl⟩
  have hown0 : Own (w.alloc (.cells (bc (List.replicate l.length 0)).toArray 5)) g (bc (half l 0)) := by
    rw [half_zero, hg]
    intro j u hu
    have hj : j < l.length := by
      rcases Nat.lt_or_ge j l.length with h1 | h1
      · exact h1
      · rw [List.getElem?_eq_none (by simpa using h1)] at hu; cases hu
    have := World.cell?_alloc_mark w (bc (List.replicate l.length 0)).toArray 5 (0, 0) j
    have h2 := World.frozen?_alloc_mark w (bc (List.replicate l.length 0)).toArray 5 0 0 j
    exact ⟨this.trans (by simpa using hu), h2.trans (by simp)⟩
  have hb0 : Below w.heap.size w (w.alloc (.cells (bc (List.replicate l.length 0)).toArray 5)) := (Below.refl _ w).alloc (Nat.le_refl _) _
  have hgB : w.heap.size ≤ g := by omega
  have H := Lib.hid hg
  clear hg
  go_enter Try.func72, Try.ntmps72
  go_wp2
  rw [← H.out]
  go_loopw [4] (fun i wr => ∃ k : Nat, k ≤ l.length ∧ i = .int .i64 k ∧ Own wr g (bc (half l k)) ∧ Below w.heap.size w wr) (fun i _ => l.length - (intOf i).toNat)
  case atStart => exact ⟨0, Nat.zero_le _, rfl, hown0, hb0⟩
  case round =>
    clear hown0 hb0 hmk
    obtain ⟨k, hk, rfl, hown, hbel⟩ := hrel
    by_cases hlt : k < l.length
    · have hm := half_get l k hlt
      obtain ⟨hc1, hc2⟩ := hown k (.int .u8 (0 : Int)) (by simp [bc, hm])
      have hix := fun W => idxStr W l k l[k] (by simp [hlt])
      clear hm
      go_wp2_with (go_at_call 86; refine (rsmall_any l[k] _).mono ?_; rintro e w1 ⟨rfl, rfl⟩)
      go_roundw
      case rel => exact ⟨k + 1, by omega, by go_num, by rw [← half_set l k hlt, ← bc_set]; exact hown.set_ k _, hbel.setCell (by exact hgB) _⟩
      case measure => simp [intOf]; omega
    · rw [half_all l k (by omega)] at hown
      have hcv := fun (W : World) (h : Own W g (bc (smallS l))) => conv_bs (P := Try.prog) W 22 5 9 (some ⟨g, 0, none⟩) l.length (g + 1) (smallS l) Try.underlying22 Try.underlying5 Try.underlying9 (by have := h.rd (B := g + 1) (by omega); simpa using this)
      have hcv1 := hcv wr hown
      rw [smallS_length] at hcv1
      clear hcv
      go_wp2
      go_ret
      exact ⟨rfl, hbel⟩
end Go.Proofs.Ytlipmlbijddopaa
