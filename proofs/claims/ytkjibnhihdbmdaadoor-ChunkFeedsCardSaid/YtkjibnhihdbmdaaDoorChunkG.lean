/-
  What holds of a reader that goes on: its numbers are small.
-/
import Derived.Test.YtkjibnhihdbmdaaDoorChunkC
set_option linter.unusedVariables false
set_option linter.unusedSimpArgs false
namespace Go.Proofs.YtkjibnhihdbmdaaDoor
structure Good (r : Rdr) : Prop where
  dg : r.digits ≤ 8
  sz : r.size ≤ 65536
  bd : r.body.length ≤ 65536
  sb : (r.st = .more ∨ r.st = .ext ∨ r.st = .sized ∨ r.st = .data) → r.body.length + r.size ≤ 65536
  dt : r.st = .data → 0 < r.size
  ln : r.line.length ≤ 256
  tr : r.trs.length ≤ 16
  tt : r.st = .trailer ∨ r.st = .taken → r.trs.length ≤ 15
theorem good_new : Good newR := ⟨by simp [newR], by simp [newR], by simp [newR], by simp [newR], by simp [newR], by simp [newR], by simp [newR], by simp [newR]⟩
theorem good_long {r : Rdr} (h : Good r) (c : UInt8) (h0 : (longR r c).2 = 0) : Good (longR r c).1 := by
  unfold longR at h0 ⊢
  by_cases h1 : c = 10
  · simp [h1] at h0
  · by_cases h2 : r.line.length = 256
    · simp [h1, h2] at h0
    · simp only [h1, h2, if_false]
      exact ⟨h.dg, h.sz, h.bd, h.sb, h.dt, by have := h.ln; simp; omega, h.tr, h.tt⟩
theorem good_more {r : Rdr} (h : Good r) (hst : r.st = .more) (c : UInt8) (h0 : (moreR r c).2 = 0) : Good (moreR r c).1 := by
  have hsb := h.sb (.inl hst)
  unfold moreR at h0 ⊢
  by_cases h1 : dig c < 16
  · simp only [h1, if_true] at h0 ⊢
    by_cases h2 : 8 < r.digits + 1 ∨ 65536 - r.body.length < 16 * r.size + dig c
    · simp [h2] at h0
    · exact ⟨by show r.digits + 1 ≤ 8; omega, by show 16 * r.size + dig c ≤ 65536; omega, h.bd, fun _ => by show r.body.length + (16 * r.size + dig c) ≤ 65536; have := h.bd; omega, by simp [hst], h.ln, h.tr, by simp [hst]⟩
  · rw [if_neg h1] at h0 ⊢
    by_cases h2 : c = 59
    · rw [if_pos h2]
      exact ⟨h.dg, h.sz, h.bd, fun _ => hsb, (fun e => by cases e), (by show [c].length ≤ 256; simp), h.tr, (fun e => by rcases e with e | e <;> cases e)⟩
    · rw [if_neg h2] at h0 ⊢
      by_cases h3 : c = 13
      · rw [if_pos h3]
        exact ⟨h.dg, h.sz, h.bd, fun _ => hsb, (fun e => by cases e), h.ln, h.tr, (fun e => by rcases e with e | e <;> cases e)⟩
      · rw [if_neg h3] at h0
        cases h0
theorem good_step {r : Rdr} (h : Good r) (c : UInt8) (h0 : (stepR r c).2 = 0) : Good (stepR r c).1 := by
  cases hst : r.st with
  | first =>
    simp only [stepR, hst] at h0 ⊢
    by_cases h1 : dig c = 16
    · simp [h1] at h0
    · simp only [h1, if_false] at h0 ⊢
      exact good_more (r := { r with size := 0, digits := 0, st := .more }) ⟨by simp, by simp, h.bd, fun _ => by simpa using h.bd, by simp, h.ln, h.tr, by simp⟩ rfl c h0
  | more =>
    simp only [stepR, hst] at h0 ⊢
    exact good_more h hst c h0
  | ext =>
    simp only [stepR, hst] at h0 ⊢
    by_cases h1 : c = 13
    · simp only [h1, if_true]
      exact ⟨h.dg, h.sz, h.bd, fun _ => h.sb (.inr (.inl hst)), by simp, h.ln, h.tr, by simp⟩
    · simp only [h1, if_false] at h0 ⊢
      exact good_long h c h0
  | sized =>
    simp only [stepR, hst]
    have := h.sb (.inr (.inr (.inl hst)))
    by_cases h1 : r.size = 0
    · rw [if_pos h1]
      exact ⟨h.dg, h.sz, h.bd, by simp, by simp, h.ln, h.tr, by simp⟩
    · rw [if_neg h1]
      exact ⟨h.dg, h.sz, h.bd, fun _ => this, fun _ => by show 0 < r.size; omega, h.ln, h.tr, by simp⟩
  | data =>
    simp only [stepR, hst]
    have h1 := h.sb (.inr (.inr (.inr hst)))
    have h2 := h.dt hst
    refine ⟨h.dg, by have := h.sz; simp; omega, by simp; omega, fun _ => by simp; omega, fun h3 => ?_, h.ln, h.tr, fun h3 => ?_⟩
    · show 0 < r.size - 1
      by_cases h4 : r.size - 1 = 0
      · simp [h4] at h3
      · omega
    · by_cases h4 : r.size - 1 = 0 <;> simp [h4] at h3
  | behind =>
    simp only [stepR, hst]
    exact ⟨h.dg, h.sz, h.bd, by simp, by simp, h.ln, h.tr, by simp⟩
  | next =>
    simp only [stepR, hst]
    exact ⟨h.dg, h.sz, h.bd, by simp, by simp, h.ln, h.tr, by simp⟩
  | after =>
    simp only [stepR, hst] at h0 ⊢
    by_cases h1 : c = 13
    · simp only [h1, if_true]
      exact ⟨h.dg, h.sz, h.bd, by simp, by simp, h.ln, h.tr, by simp⟩
    · simp only [h1, if_false] at h0 ⊢
      by_cases h2 : c ≠ 10 ∧ r.trs.length = 16
      · simp [h2] at h0
      · simp only [h2, if_false] at h0 ⊢
        by_cases h3 : c = 10
        · simp [longR, h3] at h0
        · have htr := h.tr
          have h4 : r.trs.length ≤ 15 := by
            have : ¬ r.trs.length = 16 := fun e => h2 ⟨h3, e⟩
            omega
          exact good_long (r := { r with line := [], st := .trailer }) ⟨h.dg, h.sz, h.bd, by simp, by simp, by simp, h.tr, fun _ => h4⟩ c h0
  | trailer =>
    simp only [stepR, hst] at h0 ⊢
    by_cases h1 : c = 13
    · simp only [h1, if_true]
      exact ⟨h.dg, h.sz, h.bd, by simp, by simp, h.ln, h.tr, fun _ => h.tt (.inl hst)⟩
    · simp only [h1, if_false] at h0 ⊢
      exact good_long h c h0
  | taken =>
    simp only [stepR, hst]
    have h1 := h.tt (.inr hst)
    refine ⟨h.dg, h.sz, h.bd, by simp, by simp, h.ln, ?_, by simp⟩
    by_cases h2 : c = 10 <;> simp [h2] <;> omega
  | last =>
    simp only [stepR, hst]
    exact ⟨h.dg, h.sz, h.bd, by simp, by simp, h.ln, h.tr, by simp⟩
  | nil =>
    simp only [stepR, hst]
    exact h
/-- what holds of a reader that has gone on -/
structure Lens (r : Rdr) : Prop where
  bd : r.body.length ≤ 65536
  tr : r.trs.length ≤ 16
  go : r.st ≠ .nil → Good r
  bz : r.st ≠ .nil → r.bad = 0
theorem Good.lens {r : Rdr} (h : Good r) (hz : r.bad = 0) : Lens r := ⟨h.bd, h.tr, fun _ => h, fun _ => hz⟩
theorem lens_new : Lens newR := good_new.lens rfl
theorem long_keeps (r : Rdr) (c : UInt8) : (longR r c).1.body = r.body ∧ (longR r c).1.trs = r.trs := by
  unfold longR
  by_cases h1 : c = 10
  · simp [h1]
  · by_cases h2 : r.line.length = 256 <;> simp [h1, h2]
theorem more_keeps (r : Rdr) (c : UInt8) : (moreR r c).1.body = r.body ∧ (moreR r c).1.trs = r.trs := by
  unfold moreR
  by_cases h1 : dig c < 16
  · simp [h1]
  · rw [if_neg h1]
    by_cases h2 : c = 59
    · rw [if_pos h2]; exact ⟨rfl, rfl⟩
    · rw [if_neg h2]
      by_cases h3 : c = 13
      · rw [if_pos h3]; exact ⟨rfl, rfl⟩
      · rw [if_neg h3]; exact ⟨rfl, rfl⟩
theorem step_bound {r : Rdr} (h : Good r) (c : UInt8) : (stepR r c).1.body.length ≤ 65536 ∧ (stepR r c).1.trs.length ≤ 16 := by
  by_cases h0 : (stepR r c).2 = 0
  · exact ⟨(good_step h c h0).bd, (good_step h c h0).tr⟩
  · have hb := h.bd
    have ht := h.tr
    cases hst : r.st with
    | first =>
      simp only [stepR, hst]
      by_cases h1 : dig c = 16
      · simp [h1]; exact ⟨hb, ht⟩
      · simp only [h1, if_false]
        have := more_keeps { r with size := 0, digits := 0, st := .more } c
        rw [this.1, this.2]; exact ⟨hb, ht⟩
    | more =>
      simp only [stepR, hst]
      have := more_keeps r c
      rw [this.1, this.2]; exact ⟨hb, ht⟩
    | ext =>
      simp only [stepR, hst]
      by_cases h1 : c = 13
      · simp [h1]; exact ⟨hb, ht⟩
      · simp only [h1, if_false]
        have := long_keeps r c
        rw [this.1, this.2]; exact ⟨hb, ht⟩
    | sized => simp only [stepR, hst]; exact ⟨hb, ht⟩
    | data => simp [stepR, hst] at h0
    | behind => simp only [stepR, hst]; exact ⟨hb, ht⟩
    | next => simp only [stepR, hst]; exact ⟨hb, ht⟩
    | after =>
      simp only [stepR, hst]
      by_cases h1 : c = 13
      · simp [h1]; exact ⟨hb, ht⟩
      · rw [if_neg h1]
        by_cases h2 : c ≠ 10 ∧ r.trs.length = 16
        · rw [if_pos h2]
          exact ⟨hb, ht⟩
        · rw [if_neg h2]
          have := long_keeps { r with line := [], st := .trailer } c
          rw [this.1, this.2]; exact ⟨hb, ht⟩
    | trailer =>
      simp only [stepR, hst]
      by_cases h1 : c = 13
      · simp [h1]; exact ⟨hb, ht⟩
      · simp only [h1, if_false]
        have := long_keeps r c
        rw [this.1, this.2]; exact ⟨hb, ht⟩
    | taken =>
      have h1 := h.tt (.inr hst)
      simp only [stepR, hst]
      by_cases h2 : c = 10 <;> simp [h2] <;> omega
    | last => simp only [stepR, hst]; exact ⟨hb, ht⟩
    | nil => simp only [stepR, hst]; exact ⟨hb, ht⟩
theorem step_fail {r : Rdr} (h : Good r) (c : UInt8) (e : Nat) : Lens { (stepR r c).1 with st := .nil, bad := e } := ⟨(step_bound h c).1, (step_bound h c).2, fun h => absurd rfl h, fun h => absurd rfl h⟩
theorem go_lens : ∀ (l : List UInt8) (r : Rdr) (at_ : Nat), Lens r → Lens (goR r l at_).1
  | [], r, at_, h => h
  | c :: l, r, at_, h => by
    by_cases h0 : r.st = .nil
    · simp only [goR, h0, if_true]; exact h
    · have hg := h.go h0
      by_cases h1 : (stepR r c).2 = 0
      · simp only [goR, h0, h1, ne_eq, not_true, if_false]
        exact go_lens l _ _ ((good_step hg c h1).lens ((step_bad r c).trans (h.bz h0)))
      · simp only [goR, h0, h1, ne_eq, not_false_iff, if_true, if_false]
        exact step_fail hg c _
end Go.Proofs.YtkjibnhihdbmdaaDoor
