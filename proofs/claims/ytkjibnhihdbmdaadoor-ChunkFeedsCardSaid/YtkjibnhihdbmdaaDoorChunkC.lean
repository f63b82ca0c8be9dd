/-
  Chunked bodies cut anywhere: what a reader does with pieces.
-/
import Derived.Test.YtkjibnhihdbmdaaDoorChunkE
set_option linter.unusedVariables false
set_option linter.unusedSimpArgs false
namespace Go.Proofs.YtkjibnhihdbmdaaDoor
theorem go_nil {r : Rdr} (h : r.st = .nil) (l : List UInt8) (at_ : Nat) : goR r l at_ = (r, at_) := by cases l <;> simp [goR, h]
theorem go_app (l m : List UInt8) (r : Rdr) (at_ : Nat) : goR r (l ++ m) at_ = goR (goR r l at_).1 m (goR r l at_).2 := by
  rw [go_append]
  split
  · rename_i h
    rw [go_nil h.1]
  · rfl
theorem go_shift : ∀ (l : List UInt8) (r : Rdr) (at_ : Nat), goR r l at_ = ((goR r l 0).1, at_ + (goR r l 0).2)
  | [], r, at_ => by simp [goR]
  | c :: l, r, at_ => by
    by_cases h : r.st = .nil
    · simp [goR, h]
    · by_cases h2 : (stepR r c).2 = 0
      · simp only [goR, h, h2, if_false, ne_eq, not_true]
        rw [go_shift l _ (at_ + 1), go_shift l _ (0 + 1)]
        simp; omega
      · simp [goR, h, h2]
/-- a reader fed with pieces, one after the other: the reader, and how many bytes it has read -/
def feedL : Rdr → List (List UInt8) → Nat → Rdr × Nat
  | r, [], n => (r, n)
  | r, b :: l, n => feedL (goR r b 0).1 l (n + (goR r b 0).2)
theorem feed_flat : ∀ (l : List (List UInt8)) (r : Rdr) (n : Nat), feedL r l n = goR r l.flatten n
  | [], r, n => by simp [feedL, goR]
  | b :: l, r, n => by
    rw [List.flatten_cons, go_app, feedL, feed_flat l, go_shift b r n]
theorem go_count : ∀ (l : List UInt8) (r : Rdr) (at_ : Nat), at_ ≤ (goR r l at_).2 ∧ (goR r l at_).2 ≤ at_ + l.length
  | [], r, at_ => by simp [goR]
  | c :: l, r, at_ => by
    by_cases h : r.st = .nil
    · simp [goR, h]
    · by_cases h2 : (stepR r c).2 = 0
      · have := go_count l (stepR r c).1 (at_ + 1)
        simp [goR, h, h2]; omega
      · simp [goR, h, h2]
theorem step_bad (r : Rdr) (c : UInt8) : (stepR r c).1.bad = r.bad := by
  unfold stepR moreR longR
  split <;> (repeat' split) <;> rfl
theorem step_body (r : Rdr) (c : UInt8) : ∃ m, (stepR r c).1.body = r.body ++ m := by
  unfold stepR moreR longR
  split
  case h_5 => exact ⟨[c], rfl⟩
  all_goals ((repeat' split) <;> exact ⟨[], by simp⟩)
theorem step_trs (r : Rdr) (c : UInt8) : ∃ m, (stepR r c).1.trs = r.trs ++ m := by
  unfold stepR moreR longR
  split
  case h_10 =>
    by_cases h : c = 10
    · exact ⟨[r.line], by simp [h]⟩
    · exact ⟨[], by simp [h]⟩
  all_goals ((repeat' split) <;> exact ⟨[], by simp⟩)
theorem go_body : ∀ (l : List UInt8) (r : Rdr) (at_ : Nat), ∃ m, (goR r l at_).1.body = r.body ++ m
  | [], r, at_ => ⟨[], by simp [goR]⟩
  | c :: l, r, at_ => by
    by_cases h : r.st = .nil
    · exact ⟨[], by simp [goR, h]⟩
    · obtain ⟨m, hm⟩ := step_body r c
      by_cases h2 : (stepR r c).2 = 0
      · obtain ⟨m', hm'⟩ := go_body l (stepR r c).1 (at_ + 1)
        exact ⟨m ++ m', by simp [goR, h, h2, hm', hm]⟩
      · exact ⟨m, by simp [goR, h, h2, hm]⟩
/-- what was so before the byte at which a reading ends -/
theorem go_before : ∀ (l : List UInt8) (r : Rdr) (at_ : Nat), r.bad = 0 →
    ∃ p n, n ≤ l.length ∧ goR r (l.take n) at_ = (p, at_ + n) ∧ p.bad = 0 ∧ (n = l.length ∨ p.st = .nil) ∧ goR r l at_ = (p, at_ + n) ∨
    ∃ p n, ∃ h : n < l.length, goR r (l.take n) at_ = (p, at_ + n) ∧ p.bad = 0 ∧ p.st ≠ .nil ∧ (stepR p l[n]).2 ≠ 0 ∧ goR r l at_ = ({ (stepR p l[n]).1 with st := .nil, bad := (stepR p l[n]).2 }, at_ + n)
  | [], r, at_, hb => ⟨r, 0, .inl ⟨Nat.le_refl _, by simp [goR], hb, .inl rfl, by simp [goR]⟩⟩
  | c :: l, r, at_, hb => by
    by_cases h : r.st = .nil
    · exact ⟨r, 0, .inl ⟨Nat.zero_le _, by simp [goR], hb, .inr h, by simp [goR, h]⟩⟩
    · by_cases h2 : (stepR r c).2 = 0
      · obtain ⟨p, n, h3 | h3⟩ := go_before l (stepR r c).1 (at_ + 1) (by rw [step_bad]; exact hb)
        · obtain ⟨a1, a2, a3, a4, a5⟩ := h3
          refine ⟨p, n + 1, .inl ⟨by simp; omega, ?_, a3, ?_, ?_⟩⟩
          · simp only [List.take_succ_cons, goR, h, h2, if_false, ne_eq, not_true]
            rw [a2]; congr 1; omega
          · simp; exact a4
          · simp only [goR, h, h2, if_false, ne_eq, not_true]
            rw [a5]; congr 1; omega
        · obtain ⟨p, n, a1, a2, a3, a4, a5, a6⟩ := h3
          refine ⟨p, n, .inr ⟨p, n + 1, by simp; omega, ?_, a3, a4, ?_, ?_⟩⟩
          · simp only [List.take_succ_cons, goR, h, h2, if_false, ne_eq, not_true]
            rw [a2]; congr 1; omega
          · simpa using a5
          · simp only [goR, h, h2, if_false, ne_eq, not_true]
            rw [a6]; simp; omega
      · refine ⟨r, 0, .inr ⟨r, 0, by simp, by simp [goR], hb, h, by simpa using h2, ?_⟩⟩
        simp [goR, h, h2]
/-- cut within what is read: all of it is read, and it goes on -/
theorem go_take : ∀ (l : List UInt8) (r : Rdr) (at_ k : Nat), r.bad = 0 → at_ + k < (goR r l at_).2 → ∃ p, goR r (l.take k) at_ = (p, at_ + k) ∧ p.bad = 0 ∧ p.st ≠ .nil
  | [], r, at_, k, hb, h => by simp [goR] at h; omega
  | c :: l, r, at_, k, hb, h => by
    by_cases h1 : r.st = .nil
    · simp [goR, h1] at h; omega
    · cases k with
      | zero => exact ⟨r, by simp [goR], hb, h1⟩
      | succ k =>
        by_cases h2 : (stepR r c).2 = 0
        · simp only [goR, h1, h2, if_false, ne_eq, not_true] at h
          obtain ⟨p, e, e2, e3⟩ := go_take l (stepR r c).1 (at_ + 1) k (by rw [step_bad]; exact hb) (by omega)
          refine ⟨p, ?_, e2, e3⟩
          simp only [List.take_succ_cons, goR, h1, h2, if_false, ne_eq, not_true]
          rw [e]; congr 1; omega
        · simp [goR, h1, h2] at h
          omega
end Go.Proofs.YtkjibnhihdbmdaaDoor
