/-
  Chunked bodies decoded: what Decode tells, and its laws.
-/
import Derived.Test.YtkjibnhihdbmdaaDoorChunkC
set_option linter.unusedVariables false
set_option linter.unusedSimpArgs false
namespace Go.Proofs.YtkjibnhihdbmdaaDoor
/-- the number of the error of a reader that was fed at once -/
def decE (r : Rdr) : Nat := if r.bad ≠ 0 then r.bad else if r.st = .nil then 0 else 192
theorem decE_zero {r : Rdr} : decE r = 0 ↔ r.bad = 0 ∧ r.st = .nil := by
  unfold decE
  split
  · rename_i h; simp [h]
  · rename_i h
    split
    · rename_i h2; simp_all
    · rename_i h2; simp_all
theorem dec_enc (f : Nat) (body : List UInt8) (zs : List Int) (tail : List UInt8) (hf : body.length < f) (hz : ∀ z ∈ zs, 1 ≤ z) (hl : body.length ≤ 65536) :
    ∃ q, goR newR (encF f body zs ++ tail) 0 = (q, (encF f body zs).length) ∧ decE q = 0 ∧ q.body = body := by
  obtain ⟨q, h1, h2, h3, h4, _⟩ := go_enc f body zs tail newR 0 hf hz rfl rfl (by simpa [newR] using hl)
  exact ⟨q, by simpa using h1, decE_zero.2 ⟨h3, h2⟩, by simpa [newR] using h4⟩
theorem bad_nil : ∀ (l : List UInt8) (r : Rdr) (at_ : Nat), (r.bad ≠ 0 → r.st = .nil) → (goR r l at_).1.bad ≠ 0 → (goR r l at_).1.st = .nil
  | [], r, at_, h, h1 => by simpa [goR] using h (by simpa [goR] using h1)
  | c :: l, r, at_, h, h1 => by
    by_cases h2 : r.st = .nil
    · simp [goR, h2]
    · by_cases h3 : (stepR r c).2 = 0
      · simp only [goR, h2, h3, if_false, ne_eq, not_true] at h1 ⊢
        exact bad_nil l (stepR r c).1 (at_ + 1) (fun hb => by rw [step_bad] at hb; exact absurd (h hb) h2) h1
      · simp [goR, h2, h3]
theorem dec_prefix (b tail : List UInt8) (k : Nat) (q : Rdr) (n : Nat) (hq : goR newR b 0 = (q, n)) (hk : k ≤ n) (hne : ¬ (k = n ∧ decE q = 0)) :
    ∃ p m, goR newR (b.take k) 0 = (p, k) ∧ decE p = 192 ∧ q.body = p.body ++ m ∧ n ≤ b.length ∧
      ((decE q = 0 ∨ decE q = 192 ∨ n = b.length) → (n = b.length ∨ decE q = 0)) ∧
      (¬ (decE q = 0 ∨ decE q = 192 ∨ n = b.length) → ∃ q', goR newR (b.take (n + 1) ++ tail) 0 = (q', n) ∧ decE q' = decE q) := by
  have hlen := go_count b newR 0
  rw [hq] at hlen
  simp only [Nat.zero_add] at hlen
  have hpre : ∃ p, goR newR (b.take k) 0 = (p, k) ∧ decE p = 192 := by
    rcases Nat.lt_or_ge k n with h | h
    · obtain ⟨p, e1, e2, e3⟩ := go_take b newR 0 k rfl (by rw [hq]; simpa using h)
      exact ⟨p, by simpa using e1, by simp [decE, e2, e3]⟩
    · have hkn : k = n := by omega
      subst hkn
      obtain ⟨p, n', h1 | h1⟩ := go_before b newR 0 rfl
      · obtain ⟨a1, a2, a3, a4, a5⟩ := h1
        rw [hq] at a5
        simp only [Nat.zero_add, Prod.mk.injEq] at a5 a2
        obtain ⟨rfl, rfl⟩ := a5
        refine ⟨q, a2, ?_⟩
        have : q.st ≠ .nil := fun h => hne ⟨rfl, decE_zero.2 ⟨a3, h⟩⟩
        simp [decE, a3, this]
      · obtain ⟨p, n', a1, a2, a3, a4, a5, a6⟩ := h1
        rw [hq] at a6
        simp only [Nat.zero_add, Prod.mk.injEq] at a6 a2
        obtain ⟨_, rfl⟩ := a6
        exact ⟨p, a2, by simp [decE, a3, a4]⟩
  obtain ⟨p, hp1, hp2⟩ := hpre
  obtain ⟨m, hm⟩ : ∃ m, q.body = p.body ++ m := by
    have := go_app (b.take k) (b.drop k) newR 0
    rw [List.take_append_drop, hq, hp1] at this
    have h := go_body (b.drop k) p k
    rw [← this] at h
    exact h
  refine ⟨p, m, hp1, hp2, hm, hlen.2, fun h => ?_, fun h => ?_⟩
  · rcases h with h | h | h
    · exact .inr h
    · left
      obtain ⟨p, n', h1 | h1⟩ := go_before b newR 0 rfl
      · obtain ⟨a1, a2, a3, a4, a5⟩ := h1
        rw [hq] at a5
        simp only [Nat.zero_add, Prod.mk.injEq] at a5
        obtain ⟨rfl, rfl⟩ := a5
        rcases a4 with a4 | a4
        · exact a4
        · rw [decE_zero.2 ⟨a3, a4⟩] at h; cases h
      · obtain ⟨p, n', a1, a2, a3, a4, a5, a6⟩ := h1
        rw [hq] at a6
        simp only [Nat.zero_add, Prod.mk.injEq] at a6
        obtain ⟨rfl, rfl⟩ := a6
        have : (stepR p b[n]).2 = 192 := by simpa [decE, a5] using h
        have hx : (stepR p b[n]).2 ≠ 192 := by
          unfold stepR moreR longR endE
          split <;> (repeat' split) <;> simp
        exact absurd this hx
    · exact .inl h
  · obtain ⟨p, n', h1 | h1⟩ := go_before b newR 0 rfl
    · obtain ⟨a1, a2, a3, a4, a5⟩ := h1
      rw [hq] at a5
      simp only [Nat.zero_add, Prod.mk.injEq] at a5
      obtain ⟨rfl, rfl⟩ := a5
      rcases a4 with a4 | a4
      · exact absurd (.inr (.inr a4)) h
      · exact absurd (.inl (decE_zero.2 ⟨a3, a4⟩)) h
    · obtain ⟨p, n', a1, a2, a3, a4, a5, a6⟩ := h1
      rw [hq] at a6
      simp only [Nat.zero_add, Prod.mk.injEq] at a6 a2
      obtain ⟨rfl, rfl⟩ := a6
      refine ⟨_, ?_, rfl⟩
      rw [List.take_succ_eq_append_getElem a1, List.append_assoc, go_app, a2]
      simp [goR, a4, a5]
end Go.Proofs.YtkjibnhihdbmdaaDoor
