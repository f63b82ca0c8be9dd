/-
  Chunked bodies are written: the plain functions, and that what is written is read as it was.
-/
import Derived.Test.YtkjibnhihdbmdaaDoorChunkP
set_option linter.unusedVariables false
set_option linter.unusedSimpArgs false
namespace Go.Proofs.YtkjibnhihdbmdaaDoor
def hexD (n : Nat) : UInt8 := UInt8.ofNat (if n < 10 then 48 + n else 87 + n)
def hexL (n : Nat) : List UInt8 := if h : n < 16 then [hexD n] else hexL (n / 16) ++ [hexD (n % 16)]
  termination_by n
  decreasing_by omega
theorem dig_hexD {n : Nat} (h : n < 16) : dig (hexD n) = n := by
  have : ∀ n : Fin 16, dig (hexD n.1) = n.1 := by decide
  exact this ⟨n, h⟩
theorem hexL_small {n : Nat} (h : n < 16) : hexL n = [hexD n] := by rw [hexL]; simp [h]
theorem hexL_big {n : Nat} (h : ¬ n < 16) : hexL n = hexL (n / 16) ++ [hexD (n % 16)] := by
  conv => lhs; rw [hexL]
  simp [h]
theorem hexL_pos (n : Nat) : 0 < (hexL n).length := by rw [hexL]; split <;> simp
theorem hexL_len : ∀ (k n : Nat), 0 < k → n < 16 ^ k → (hexL n).length ≤ k
  | 0, n, h0, h => absurd h0 (Nat.lt_irrefl _)
  | k + 1, n, _, h => by
    by_cases hs : n < 16
    · rw [hexL_small hs]; simp
    · rw [hexL_big hs]
      have hk : 0 < k := by
        rcases Nat.eq_zero_or_pos k with rfl | h1
        · simp at h; omega
        · exact h1
      have := hexL_len k (n / 16) hk (by rw [Nat.div_lt_iff_lt_mul (by omega)]; rw [Nat.pow_succ] at h; omega)
      simp; omega
def chunkN (body : List UInt8) (zs : List Int) : Nat := match zs with
  | [] => body.length
  | z :: _ => min body.length z.toNat
/-- what is written -/
def encF : Nat → List UInt8 → List Int → List UInt8
  | 0, _, _ => []
  | _ + 1, [], _ => [48, 13, 10, 13, 10]
  | f + 1, c :: l, zs => hexL (chunkN (c :: l) zs) ++ 13 :: 10 :: ((c :: l).take (chunkN (c :: l) zs) ++ 13 :: 10 :: encF f ((c :: l).drop (chunkN (c :: l) zs)) zs.tail)
theorem chunkN_le (body : List UInt8) (zs : List Int) : chunkN body zs ≤ body.length := by unfold chunkN; split <;> omega
theorem chunkN_pos {body : List UInt8} {zs : List Int} (hb : body ≠ []) (hz : ∀ z ∈ zs, 1 ≤ z) : 0 < chunkN body zs := by
  have hp := List.length_pos_iff.2 hb
  unfold chunkN
  split
  · exact hp
  · rename_i z zs
    have := hz z (by simp)
    omega
/-- the digits of a number -/
theorem go_hex (l : List UInt8) : ∀ (k n : Nat) (r : Rdr) (at_ : Nat), n ≤ k → r.st = .first → n ≤ 65536 - r.body.length → (hexL n).length ≤ 8 →
    goR r (hexL n ++ l) at_ = goR { r with st := .more, size := n, digits := (hexL n).length } l (at_ + (hexL n).length)
  | 0, n, r, at_, hk, hs, hn, hl => by
    have : n = 0 := by omega
    subst this
    have e : hexL 0 = [hexD 0] := hexL_small (by omega)
    have d : dig (hexD 0) = 0 := dig_hexD (by omega)
    rw [e]
    simp [goR, hs, stepR, d, moreR]
  | k + 1, n, r, at_, hk, hs, hn, hl => by
    by_cases h : n < 16
    · have e : hexL n = [hexD n] := hexL_small h
      have d : dig (hexD n) = n := dig_hexD h
      have n1 : n ≠ 16 := by omega
      have n2 : ¬ 65536 - r.body.length < n := by omega
      rw [e]
      simp [goR, hs, stepR, d, moreR, h, n1, n2]
    · have e := hexL_big h
      have d : dig (hexD (n % 16)) = n % 16 := dig_hexD (by omega)
      rw [e] at hl ⊢
      simp only [List.length_append, List.length_singleton] at hl ⊢
      rw [List.append_assoc, go_hex _ k (n / 16) r at_ (by omega) hs (by omega) (by omega)]
      have h16 : 16 * (n / 16) + n % 16 = n := by omega
      have n1 : ¬ 8 < (hexL (n / 16)).length + 1 := by omega
      have n2 : ¬ 65536 - r.body.length < n := by omega
      have n3 : n % 16 < 16 := by omega
      simp [goR, stepR, d, moreR, h16, n1, n2, n3]
      rfl
theorem go_enc : ∀ (f : Nat) (body : List UInt8) (zs : List Int) (tail : List UInt8) (r : Rdr) (at_ : Nat), body.length < f → (∀ z ∈ zs, 1 ≤ z) → r.st = .first → r.bad = 0 → r.body.length + body.length ≤ 65536 →
    ∃ q, goR r (encF f body zs ++ tail) at_ = (q, at_ + (encF f body zs).length) ∧ q.st = .nil ∧ q.bad = 0 ∧ q.body = r.body ++ body ∧ q.trs = r.trs
  | 0, _, _, _, _, _, hf, _, _, _, _ => by omega
  | f + 1, [], zs, tail, r, at_, hf, hz, hs, hb, hl => by
    refine ⟨{ r with st := .nil, size := 0, digits := 1 }, ?_, rfl, hb, by simp, rfl⟩
    have d0 : dig 48 = 0 := by decide
    have d1 : dig 13 = 16 := by decide
    cases tail <;> simp [encF, goR, hs, stepR, moreR, d0, d1, endE]
  | f + 1, c :: l, zs, tail, r, at_, hf, hz, hs, hb, hl => by
    have hp := chunkN_pos (List.cons_ne_nil c l) hz
    have hle := chunkN_le (c :: l) zs
    have d1 : dig 13 = 16 := by decide
    obtain ⟨n, hn⟩ : ∃ n, n = chunkN (c :: l) zs := ⟨_, rfl⟩
    simp only [encF]
    rw [← hn] at hp hle ⊢
    generalize c :: l = b at *
    have hh : (hexL n).length ≤ 8 := hexL_len 8 n (by omega) (by simp; omega)
    have n0 : n ≠ 0 := by omega
    simp only [List.append_assoc, List.cons_append]
    rw [go_hex _ n n r at_ (Nat.le_refl _) hs (by omega) hh]
    have e1 : ∀ m, goR { r with st := .more, size := n, digits := (hexL n).length } (13 :: 10 :: m) (at_ + (hexL n).length) = goR { r with st := .data, size := n, digits := (hexL n).length } m (at_ + (hexL n).length + 2) := fun m => by
      simp [goR, stepR, moreR, d1, endE, n0]
    rw [e1]
    have hd := (go_data (b.take n ++ 13 :: 10 :: (encF f (b.drop n) zs.tail ++ tail)) { r with st := .data, size := n, digits := (hexL n).length } (at_ + (hexL n).length + 2) rfl (by show 0 < n; omega) hb).2 (by show n ≤ _; simp; omega)
    have ht : (b.take n).length = n := by rw [List.length_take]; omega
    rw [hd]
    have e2 : (b.take n ++ 13 :: 10 :: (encF f (b.drop n) zs.tail ++ tail)).take n = b.take n := by rw [List.take_append_of_le_length (by omega), List.take_of_length_le (by omega)]
    have e3 : (b.take n ++ 13 :: 10 :: (encF f (b.drop n) zs.tail ++ tail)).drop n = 13 :: 10 :: (encF f (b.drop n) zs.tail ++ tail) := by
      rw [List.drop_append_of_le_length (by omega), List.drop_of_length_le (by omega)]; rfl
    show ∃ q, goR { r with st := .behind, size := 0, digits := (hexL n).length, body := r.body ++ List.take n _ } (List.drop n _) _ = _ ∧ _
    rw [e2, e3]
    have hdl : (b.drop n).length = b.length - n := List.length_drop
    obtain ⟨q, h1, h2, h3, h4, h5⟩ := go_enc f (b.drop n) zs.tail tail { r with st := .first, size := 0, digits := (hexL n).length, body := r.body ++ b.take n } (at_ + (hexL n).length + 2 + n + 2) (by omega) (fun z h => hz z (List.mem_of_mem_tail h)) rfl hb (by simp [ht]; omega)
    refine ⟨q, ?_, h2, h3, by rw [h4]; simp, h5⟩
    simp only [goR, stepR, endE]
    simp only [if_true, ne_eq, not_true, if_false, reduceCtorEq]
    refine Eq.trans ?_ (h1.trans ?_)
    · rfl
    · simp [ht]; omega
/-! ### how long it is -/
theorem enc_len (n : Nat) (hn : 0 < n) : ∀ (f : Nat) (body : List UInt8) (k : Nat), body.length < f → body.length / n < k →
    (encF f body (List.replicate k (n : Int))).length = body.length + 5 + body.length / n * ((hexL n).length + 4) + if 0 < body.length % n then (hexL (body.length % n)).length + 4 else 0
  | 0, _, _, hf, _ => by omega
  | f + 1, [], k, hf, hk => by simp [encF]
  | f + 1, c :: l, 0, hf, hk => absurd hk (Nat.not_lt_zero _)
  | f + 1, c :: l, k + 1, hf, hk => by
    have hc : chunkN (c :: l) (List.replicate (k + 1) (n : Int)) = min (c :: l).length n := by simp [chunkN, List.replicate_succ]
    have htl : (List.replicate (k + 1) (n : Int)).tail = List.replicate k (n : Int) := by simp [List.replicate_succ]
    have hp : 0 < (c :: l).length := by simp
    simp only [encF, hc, htl]
    generalize c :: l = b at *
    by_cases h : b.length < n
    · rw [Nat.min_eq_left (by omega)]
      have e1 : b.length / n = 0 := Nat.div_eq_of_lt h
      have e2 : b.length % n = b.length := Nat.mod_eq_of_lt h
      have e3 : b.drop b.length = [] := List.drop_of_length_le (Nat.le_refl _)
      have e4 : ∀ zs, (encF f [] zs).length = 5 := by
        intro zs
        cases f with
        | zero => omega
        | succ f => rfl
      rw [e1, e2, e3]
      simp [e4, hp]
      omega
    · rw [Nat.min_eq_right (by omega)]
      have hdl : (b.drop n).length = b.length - n := List.length_drop
      have e1 : (b.length - n) / n = b.length / n - 1 := by rw [Nat.div_eq_sub_div hn (by omega) (a := b.length)]; rfl
      have e2 : (b.length - n) % n = b.length % n := (Nat.mod_eq_sub_mod (by omega)).symm
      have h1 : 0 < b.length / n := Nat.div_pos (by omega) hn
      have := enc_len n hn f (b.drop n) k (by omega) (by rw [hdl, e1]; omega)
      rw [hdl, e1, e2] at this
      obtain ⟨q, hq⟩ : ∃ q, b.length / n = q + 1 := ⟨b.length / n - 1, by omega⟩
      rw [hq] at this ⊢
      simp only [Nat.add_sub_cancel] at this
      simp only [List.length_append, List.length_cons, List.length_take, this, Nat.succ_mul]
      omega
end Go.Proofs.YtkjibnhihdbmdaaDoor
