/-
  Chunked bodies that are too long.
-/
import Derived.Test.YtkjibnhihdbmdaaDoorChunkD
set_option linter.unusedVariables false
set_option linter.unusedSimpArgs false
namespace Go.Proofs.YtkjibnhihdbmdaaDoor
/-- what is written, but its end -/
def encP : Nat → List UInt8 → List Int → List UInt8
  | 0, _, _ => []
  | _ + 1, [], _ => []
  | f + 1, c :: l, zs => hexL (chunkN (c :: l) zs) ++ 13 :: 10 :: ((c :: l).take (chunkN (c :: l) zs) ++ 13 :: 10 :: encP f ((c :: l).drop (chunkN (c :: l) zs)) zs.tail)
theorem encF_eq : ∀ (f : Nat) (body : List UInt8) (zs : List Int), body.length < f → (∀ z ∈ zs, 1 ≤ z) → encF f body zs = encP f body zs ++ [48, 13, 10, 13, 10]
  | 0, _, _, hf, _ => by omega
  | f + 1, [], zs, _, _ => rfl
  | f + 1, c :: l, zs, hf, hz => by
    have hp := chunkN_pos (List.cons_ne_nil c l) hz
    have hle := chunkN_le (c :: l) zs
    have hlp : 0 < (c :: l).length := by simp
    have hdl : ((c :: l).drop (chunkN (c :: l) zs)).length = (c :: l).length - chunkN (c :: l) zs := List.length_drop
    simp only [encF, encP]
    rw [encF_eq f _ _ (by omega) (fun z h => hz z (List.mem_of_mem_tail h))]
    simp
theorem encP_end : ∀ (f : Nat) (body : List UInt8) (zs : List Int), body.length < f → body ≠ [] → (∀ z ∈ zs, 1 ≤ z) → ∃ x, encP f body zs = x ++ [13, 10]
  | 0, _, _, hf, _, _ => by omega
  | f + 1, [], zs, _, h, _ => absurd rfl h
  | f + 1, c :: l, zs, hf, _, hz => by
    have hp := chunkN_pos (List.cons_ne_nil c l) hz
    have hle := chunkN_le (c :: l) zs
    have hlp : 0 < (c :: l).length := by simp
    have hdl : ((c :: l).drop (chunkN (c :: l) zs)).length = (c :: l).length - chunkN (c :: l) zs := List.length_drop
    simp only [encP]
    by_cases h : (c :: l).drop (chunkN (c :: l) zs) = []
    · rw [h]
      refine ⟨hexL (chunkN (c :: l) zs) ++ 13 :: 10 :: (c :: l).take (chunkN (c :: l) zs), ?_⟩
      cases f with
      | zero => simp at hf
      | succ f => simp [encP]
    · obtain ⟨x, hx⟩ := encP_end f _ zs.tail (by omega) h (fun z h => hz z (List.mem_of_mem_tail h))
      rw [hx]
      exact ⟨hexL (chunkN (c :: l) zs) ++ 13 :: 10 :: ((c :: l).take (chunkN (c :: l) zs) ++ 13 :: 10 :: x), by simp⟩
theorem go_encP : ∀ (f : Nat) (body : List UInt8) (zs : List Int) (tail : List UInt8) (r : Rdr) (at_ : Nat), body.length < f → (∀ z ∈ zs, 1 ≤ z) → r.st = .first → r.bad = 0 → r.body.length + body.length ≤ 65536 →
    ∃ q, goR r (encP f body zs ++ tail) at_ = goR q tail (at_ + (encP f body zs).length) ∧ q.st = .first ∧ q.bad = 0 ∧ q.body = r.body ++ body ∧ q.trs = r.trs
  | 0, _, _, _, _, _, hf, _, _, _, _ => by omega
  | f + 1, [], zs, tail, r, at_, hf, hz, hs, hb, hl => ⟨r, by simp [encP], hs, hb, by simp, rfl⟩
  | f + 1, c :: l, zs, tail, r, at_, hf, hz, hs, hb, hl => by
    have hp := chunkN_pos (List.cons_ne_nil c l) hz
    have hle := chunkN_le (c :: l) zs
    have d1 : dig 13 = 16 := by decide
    obtain ⟨n, hn⟩ : ∃ n, n = chunkN (c :: l) zs := ⟨_, rfl⟩
    simp only [encP]
    rw [← hn] at hp hle ⊢
    generalize c :: l = b at *
    have hh : (hexL n).length ≤ 8 := hexL_len 8 n (by omega) (by simp; omega)
    have n0 : n ≠ 0 := by omega
    simp only [List.append_assoc, List.cons_append]
    rw [go_hex _ n n r at_ (Nat.le_refl _) hs (by omega) hh]
    have e1 : ∀ m, goR { r with st := .more, size := n, digits := (hexL n).length } (13 :: 10 :: m) (at_ + (hexL n).length) = goR { r with st := .data, size := n, digits := (hexL n).length } m (at_ + (hexL n).length + 2) := fun m => by
      simp [goR, stepR, moreR, d1, endE, n0]
    rw [e1]
    have hd := (go_data (b.take n ++ 13 :: 10 :: (encP f (b.drop n) zs.tail ++ tail)) { r with st := .data, size := n, digits := (hexL n).length } (at_ + (hexL n).length + 2) rfl (by show 0 < n; omega) hb).2 (by show n ≤ _; simp; omega)
    have ht : (b.take n).length = n := by rw [List.length_take]; omega
    rw [hd]
    have e2 : (b.take n ++ 13 :: 10 :: (encP f (b.drop n) zs.tail ++ tail)).take n = b.take n := by rw [List.take_append_of_le_length (by omega), List.take_of_length_le (by omega)]
    have e3 : (b.take n ++ 13 :: 10 :: (encP f (b.drop n) zs.tail ++ tail)).drop n = 13 :: 10 :: (encP f (b.drop n) zs.tail ++ tail) := by
      rw [List.drop_append_of_le_length (by omega), List.drop_of_length_le (by omega)]; rfl
    show ∃ q, goR { r with st := .behind, size := 0, digits := (hexL n).length, body := r.body ++ List.take n _ } (List.drop n _) _ = _ ∧ _
    rw [e2, e3]
    have hdl : (b.drop n).length = b.length - n := List.length_drop
    obtain ⟨q, h1, h2, h3, h4, h5⟩ := go_encP f (b.drop n) zs.tail tail { r with st := .first, size := 0, digits := (hexL n).length, body := r.body ++ b.take n } (at_ + (hexL n).length + 2 + n + 2) (by omega) (fun z h => hz z (List.mem_of_mem_tail h)) rfl hb (by simp [ht]; omega)
    refine ⟨q, ?_, h2, h3, by rw [h4]; simp, h5⟩
    simp only [goR, stepR, endE]
    simp only [if_true, ne_eq, not_true, if_false, reduceCtorEq]
    refine Eq.trans ?_ (h1.trans ?_)
    · rfl
    · simp [ht]; congr 1; omega
/-- a number's first digit -/
theorem hexL_head : ∀ (k n : Nat), n ≤ k → 0 < n → ∃ d l, hexL n = d :: l ∧ 0 < dig d ∧ dig d < 16
  | 0, n, hk, h0 => by omega
  | k + 1, n, hk, h0 => by
    by_cases h : n < 16
    · exact ⟨_, [], hexL_small h, by rw [dig_hexD h]; exact h0, by rw [dig_hexD h]; exact h⟩
    · obtain ⟨d, l, e, h1, h2⟩ := hexL_head k (n / 16) (by omega) (by omega)
      exact ⟨d, l ++ [hexD (n % 16)], by rw [hexL_big h, e]; rfl, h1, h2⟩
/-- one chunk more than a body can have -/
theorem dec_wrong (f : Nat) (body : List UInt8) (zs : List Int) (tail : List UInt8) (m : Nat) (hf : body.length < f) (hz : ∀ z ∈ zs, 1 ≤ z) (hl : body.length = 65536) (hm : 0 < m) :
    ∃ q, goR newR (encP f body zs ++ (hexL m ++ tail)) 0 = (q, (encP f body zs).length) ∧ decE q = 3 := by
  obtain ⟨q, h1, h2, h3, h4, _⟩ := go_encP f body zs (hexL m ++ tail) newR 0 hf hz rfl rfl (by simp [newR]; omega)
  obtain ⟨d, l, e, h5, h6⟩ := hexL_head m m (Nat.le_refl _) hm
  have hb : q.body.length = 65536 := by rw [h4]; simpa [newR] using hl
  have h7 : dig d ≠ 16 := by omega
  have h8 : ¬ dig d = 0 := by omega
  rw [h1, e]
  refine ⟨{ q with st := .nil, bad := 3, size := dig d, digits := 1 }, ?_, by simp [decE]⟩
  simp [goR, h2, stepR, h7, moreR, h6, hb, h5]
end Go.Proofs.YtkjibnhihdbmdaaDoor
