import Derived.Test.YtlipmlbijddopaaBase
import Derived.Test.YtlipmlbijddopaaProg
namespace Go.Proofs.Ytlipmlbijddopaa
open Go.RowKit

/-- A to Z made small -/
def smallB (c : UInt8) : UInt8 := if 65 ≤ c ∧ c ≤ 90 then c + 32 else c
def smallS (l : List UInt8) : List UInt8 := l.map smallB
@[simp] theorem smallS_length (l : List UInt8) : (smallS l).length = l.length := by simp [smallS]

/-- the row in the middle of the change -/
def mid (l : List UInt8) (k : Nat) : List UInt8 := smallS (l.take k) ++ l.drop k
theorem mid_zero (l : List UInt8) : mid l 0 = l := by simp [mid, smallS]
theorem mid_all (l : List UInt8) (k : Nat) (h : l.length ≤ k) : mid l k = smallS l := by simp [mid, List.take_of_length_le h, List.drop_eq_nil_of_le h]
theorem mid_get (l : List UInt8) (k : Nat) (h : k < l.length) : (mid l k)[k]? = some l[k] := by
  have : k = (smallS (l.take k)).length := by simp; omega
  unfold mid
  rw [List.getElem?_append_right (by simp; omega), List.getElem?_drop]
  simp [show min k l.length = k by omega, h]
theorem mid_set (l : List UInt8) (k : Nat) (h : k < l.length) : (mid l k).set k (smallB l[k]) = mid l (k + 1) := by
  have h1 : (smallS (l.take k)).length = k := by simp; omega
  have h2 : smallS (l.take (k + 1)) = smallS (l.take k) ++ [smallB l[k]] := by rw [List.take_succ_eq_append_getElem h]; unfold smallS; rw [List.map_append]; rfl
  unfold mid
  rw [List.set_append_right _ _ (by omega), h1, Nat.sub_self, List.drop_eq_getElem_cons h, List.set_cons_zero, h2]
  simp
theorem mid_same (l : List UInt8) (k : Nat) (h : k < l.length) (hs : smallB l[k] = l[k]) : mid l (k + 1) = mid l k := by
  rw [← mid_set l k h, hs]
  have hm := mid_get l k h
  obtain ⟨hk, he⟩ := List.getElem?_eq_some_iff.1 hm
  rw [← he, List.set_getElem_self]
theorem smallB_yes (c : UInt8) (h1 : 65 ≤ (c.toNat : Int)) (h2 : (c.toNat : Int) ≤ 90) : ((smallB c).toNat : Int) = c.toNat - 65 + 97 := by
  unfold smallB
  have h3 : 65 ≤ c := by rw [UInt8.le_iff_toNat_le]; simp; omega
  have h4 : c ≤ 90 := by rw [UInt8.le_iff_toNat_le]; simp; omega
  rw [if_pos ⟨h3, h4⟩, UInt8.toNat_add]
  simp; omega
theorem smallB_no (c : UInt8) (h : ¬ (65 ≤ (c.toNat : Int) ∧ (c.toNat : Int) ≤ 90)) : smallB c = c := by
  unfold smallB
  rw [if_neg]
  intro ⟨h3, h4⟩
  rw [UInt8.le_iff_toNat_le] at h3 h4
  simp at h3 h4
  omega
theorem bc_set (l : List UInt8) (k : Nat) (c : UInt8) : (bc l).set k (.int .u8 (c.toNat : Int)) = bc (l.set k c) := by simp [bc]

set_option maxRecDepth 100000 in
set_option maxHeartbeats 400000 in
theorem small1_any (l : List UInt8) (g c : Nat) (w : World) (B : Nat) (hB : B ≤ g) (h : Own w g (bc l)) (hl : l.length ≤ 140737488355328) :
    Calls Try.prog 89 #[.slice (some ⟨g, 0, none⟩) l.length c] w fun e w' => e = .returned (.string ⟨(smallS l).toArray⟩) ∧ Below B w w' := by
  go_enter Try.func89, Try.ntmps89
  go_wp2
  go_loopw [7, 3, 4] (fun i _ _ wr => ∃ k : Nat, k ≤ l.length ∧ i = .int .i64 k ∧ Own wr g (bc (mid l k)) ∧ Below B w wr) (fun i _ _ _ => l.length - (intOf i).toNat)
  case atStart => exact ⟨0, Nat.zero_le _, rfl, by rw [mid_zero]; exact h, Below.refl _ _⟩
  case round =>
    obtain ⟨k, hk, rfl, hown, hbel⟩ := hrel
    by_cases hlt : k < l.length
    · have hm := mid_get l k hlt
      have hc := hown k (.int .u8 (l[k].toNat : Int)) (by simp [bc, hm])
      obtain ⟨hc1, hc2⟩ := hc
      go_wp2
      · have t1 : 65 ≤ (l[k].toNat : Int) := by assumption
        have t2 : (l[k].toNat : Int) ≤ 90 := by assumption
        go_roundw
        case rel => exact ⟨k + 1, by omega, by go_num, by rw [← smallB_yes _ t1 t2, ← mid_set l k hlt, ← bc_set]; exact hown.set_ k _, hbel.setCell (by exact hB) _⟩
        case measure => simp [intOf]; omega
      · have t2 : ¬ (l[k].toNat : Int) ≤ 90 := by assumption
        go_roundw
        case rel => exact ⟨k + 1, by omega, by go_num, by rw [mid_same l k hlt (smallB_no _ (fun h => t2 h.2))]; exact hown, hbel⟩
        case measure => simp [intOf]; omega
      · have t2 : ¬ 65 ≤ (l[k].toNat : Int) := by assumption
        go_roundw
        case rel => exact ⟨k + 1, by omega, by go_num, by rw [mid_same l k hlt (smallB_no _ (fun h => t2 h.1))]; exact hown, hbel⟩
        case measure => simp [intOf]; omega
    · rw [mid_all l k (by omega)] at hown
      have hcv := fun (W : World) (h : Own W g (bc (smallS l))) => conv_bs (P := Try.prog) W 22 5 9 (some ⟨g, 0, none⟩) c (g + 1) (smallS l) Try.underlying22 Try.underlying5 Try.underlying9 (by have := h.rd (B := g + 1) (by omega); simpa using this)
      have hcv1 := hcv wr hown
      rw [smallS_length] at hcv1
      clear hcv
      go_wp2
      go_ret
      exact ⟨rfl, hbel⟩

set_option maxRecDepth 100000 in
set_option maxHeartbeats 400000 in
theorem small_any (l : List UInt8) (w : World) (hl : l.length ≤ 140737488355328) :
    Calls Try.prog 77 #[.string ⟨l.toArray⟩] w fun e w' => e = .returned (.string ⟨(smallS l).toArray⟩) ∧ Below w.heap.size w w' := by
  obtain ⟨cap, w1, hrun, _, hb1, hz1, hown⟩ := conv_sb (P := Try.prog) w 9 22 5 l Try.underlying9 Try.underlying22 Try.underlying5
  clear hz1
  go_enter Try.func77, Try.ntmps77
  go_wp2_with (go_at_call 89; refine (small1_any l w.heap.size cap w1 w.heap.size (Nat.le_refl _) hown hl).mono ?_; rintro e w2 ⟨rfl, hb2⟩)
  go_ret
  exact ⟨rfl, hb1.trans hb2⟩
end Go.Proofs.Ytlipmlbijddopaa
