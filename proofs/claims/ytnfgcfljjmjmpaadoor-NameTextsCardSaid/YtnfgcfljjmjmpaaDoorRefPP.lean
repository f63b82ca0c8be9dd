/-
  Plain: what the reference's Parse says, and that it is what Parse says.
-/
import Derived.Test.YtnfgcfljjmjmpaaDoorTextP
set_option linter.unusedVariables false
set_option linter.unusedSimpArgs false
namespace Go.Proofs.YtnfgcfljjmjmpaaDoor
open Go.RowKit
/-- the number of k digits behind the first byte -/
def acc (s : List UInt8) : Nat → Nat
  | 0 => 0
  | k + 1 => 10 * acc s k + (s.getD (k + 1) 0).toNat - 48
def digOk (s : List UInt8) (j : Nat) : Bool := decide (48 ≤ (s.getD j 0).toNat) && decide ((s.getD j 0).toNat ≤ 57)
def pieceN (s : List UInt8) : UInt8 × Nat :=
  if s.getD 0 0 ≠ 92 then (s.getD 0 0, 1)
  else if 1 < s.length ∧ (s.getD 1 0 = 46 ∨ s.getD 1 0 = 92) then (s.getD 1 0, 2)
  else if s.length < 4 then (0, 0)
  else if digOk s 1 && digOk s 2 && digOk s 3 then (if 255 < acc s 3 ∨ (33 ≤ acc s 3 ∧ acc s 3 ≤ 126) then (0, 0) else (UInt8.ofNat (acc s 3), 4))
  else (0, 0)
/-- reading on, with fuel; none: not a text -/
def rp : Nat → List UInt8 → List (List UInt8) → List UInt8 → Option (List (List UInt8))
  | 0, _, _, _ => none
  | f + 1, s, n, lab =>
    if s = [] then some (n ++ [lab])
    else if s.getD 0 0 = 46 then rp f (s.drop 1) (n ++ [lab]) []
    else if (s.getD 0 0).toNat < 33 ∨ 126 < (s.getD 0 0).toNat then none
    else if (pieceN s).2 = 0 then none
    else rp f (s.drop (pieceN s).2) n (lab ++ [(pieceN s).1])
def rparse (s : List UInt8) : List (List UInt8) × Nat :=
  if smallS s = [46] then ([], 0) else
    match rp ((smallS s).length + 1) (smallS s) [] [] with
    | some n => if rightN n = true then (n, 0) else ([], 164)
    | none => ([], 164)
theorem getD_app {p r : List UInt8} (k : Nat) (hk : k < p.length) : (p ++ r).getD k 0 = p.getD k 0 := by
  rw [List.getD_eq_getElem?_getD, List.getD_eq_getElem?_getD, List.getElem?_append_left hk]
theorem piece_esc (x : UInt8) (r : List UInt8) : pieceN (escB x ++ r) = (x, (escB x).length) ∧ (escB x ++ r).getD 0 0 ≠ 46 ∧ 33 ≤ ((escB x ++ r).getD 0 0).toNat ∧ ((escB x ++ r).getD 0 0).toNat ≤ 126 := by
  have hxl := UInt8.toNat_lt x
  rcases escB_cases x with ⟨hx, e⟩ | ⟨hx, e⟩ | ⟨hx, e⟩ <;> rw [e]
  · have hc : x = 46 ∨ x = 92 := by rcases hx with h | h; exact .inl (u8_eq.2 h); exact .inr (u8_eq.2 h)
    refine ⟨?_, by simp, by simp, by simp⟩
    unfold pieceN
    rw [if_neg (by simp), if_pos ⟨by simp, by simpa using hc⟩]
    rfl
  · have h46 : x ≠ 46 := fun h => hx.2.2.1 (by rw [h]; rfl)
    have h92 : x ≠ 92 := fun h => hx.2.2.2 (by rw [h]; rfl)
    refine ⟨?_, by simpa using h46, by simp; omega, by simp; omega⟩
    unfold pieceN
    rw [if_pos (by simpa using h92)]
    rfl
  · have h1 := dig1 x
    have h2 := dig2 x
    have h3 := dig3 x
    refine ⟨?_, by simp, by simp, by simp⟩
    have g1 : ([92, 48 + x / 100, 48 + x / 10 % 10, 48 + x % 10] ++ r : List UInt8).getD 1 0 = 48 + x / 100 := rfl
    have g2 : ([92, 48 + x / 100, 48 + x / 10 % 10, 48 + x % 10] ++ r : List UInt8).getD 2 0 = 48 + x / 10 % 10 := rfl
    have g3 : ([92, 48 + x / 100, 48 + x / 10 % 10, 48 + x % 10] ++ r : List UInt8).getD 3 0 = 48 + x % 10 := rfl
    have hacc : acc ([92, 48 + x / 100, 48 + x / 10 % 10, 48 + x % 10] ++ r) 3 = x.toNat := by
      simp only [acc]
      rw [g1, g2, g3, h1, h2, h3]
      have h4 : x.toNat / 10 / 10 = x.toNat / 100 := Nat.div_div_eq_div_mul _ _ _
      omega
    have n1 : ¬ (48 + x / 100 : UInt8) = 46 := by rw [u8_eq, h1]; simp; omega
    have n2 : ¬ (48 + x / 100 : UInt8) = 92 := by rw [u8_eq, h1]; simp; omega
    unfold pieceN
    rw [if_neg (by simp), if_neg (by rw [g1]; rintro ⟨_, h9 | h9⟩; exact n1 h9; exact n2 h9), if_neg (by simp), hacc]
    rw [if_pos (by unfold digOk; rw [g1, g2, g3, h1, h2, h3]; simp; omega), if_neg (by omega)]
    rw [show UInt8.ofNat x.toNat = x from UInt8.ofNat_toNat]
    rfl
theorem piece_inv (s : List UInt8) (hne : s ≠ []) (h46 : s.getD 0 0 ≠ 46) (h33 : ¬ ((s.getD 0 0).toNat < 33 ∨ 126 < (s.getD 0 0).toNat)) (h0 : (pieceN s).2 ≠ 0) : s = escB (pieceN s).1 ++ s.drop (pieceN s).2 ∧ 0 < (pieceN s).2 ∧ (pieceN s).2 ≤ s.length := by
  have h46' : (s.getD 0 0).toNat ≠ 46 := fun h => h46 (u8_eq.2 h)
  have hl : 0 < s.length := List.length_pos_iff.2 hne
  have cons : ∀ (k : Nat), k < s.length → s.drop k = s.getD k 0 :: s.drop (k + 1) := by
    intro k hk
    rw [List.drop_eq_getElem_cons hk, List.getD_eq_getElem?_getD, List.getElem?_eq_getElem hk]; rfl
  have hs0 := cons 0 hl
  rw [List.drop_zero] at hs0
  unfold pieceN at h0 ⊢
  split at h0
  · rename_i h92
    rw [if_pos h92]
    have h92' : (s.getD 0 0).toNat ≠ 92 := fun h => h92 (u8_eq.2 h)
    have e : escB (s.getD 0 0) = [s.getD 0 0] := by
      rcases escB_cases (s.getD 0 0) with ⟨hx, e⟩ | ⟨hx, e⟩ | ⟨hx, e⟩
      · omega
      · exact e
      · omega
    exact ⟨by rw [e]; exact hs0, by simp, by simp; omega⟩
  · rename_i h92
    have h92e : s.getD 0 0 = 92 := Classical.byContradiction h92
    rw [if_neg h92]
    split at h0
    · rename_i h2
      rw [if_pos h2]
      have e : escB (s.getD 1 0) = [92, s.getD 1 0] := by
        rcases escB_cases (s.getD 1 0) with ⟨hx, e⟩ | ⟨hx, e⟩ | ⟨hx, e⟩
        · exact e
        · rcases h2.2 with h | h <;> rw [h] at hx <;> simp at hx
        · rcases h2.2 with h | h <;> rw [h] at hx <;> simp at hx
      refine ⟨?_, by simp, by simp; omega⟩
      rw [e]
      have h3 := cons 1 h2.1
      rw [h3, h92e] at hs0
      exact hs0
    · rename_i h2
      rw [if_neg h2]
      split at h0
      · exact absurd rfl h0
      · rename_i h4
        rw [if_neg h4]
        split at h0
        · rename_i hd
          rw [if_pos hd]
          split at h0
          · exact absurd rfl h0
          · rename_i hx
            rw [if_neg hx]
            have k1 := cons 1 (by omega)
            have k2 := cons 2 (by omega)
            have k3 := cons 3 (by omega)
            simp only [digOk, Bool.and_eq_true, decide_eq_true_eq] at hd
            obtain ⟨⟨d1, d2⟩, d3⟩ := hd
            have ha : acc s 3 = ((s.getD 1 0).toNat - 48) * 100 + ((s.getD 2 0).toNat - 48) * 10 + ((s.getD 3 0).toNat - 48) := by
              show 10 * (10 * (10 * 0 + (s.getD 1 0).toNat - 48) + (s.getD 2 0).toNat - 48) + (s.getD 3 0).toNat - 48 = _
              omega
            have hxn : (UInt8.ofNat (acc s 3)).toNat = acc s 3 := by rw [UInt8.toNat_ofNat']; omega
            have e : escB (UInt8.ofNat (acc s 3)) = [92, s.getD 1 0, s.getD 2 0, s.getD 3 0] := by
              rcases escB_cases (UInt8.ofNat (acc s 3)) with ⟨hx', e⟩ | ⟨hx', e⟩ | ⟨hx', e⟩
              · omega
              · omega
              · rw [e]
                have e1 : (48 + UInt8.ofNat (acc s 3) / 100 : UInt8) = s.getD 1 0 := by rw [u8_eq, dig1, hxn, ha]; omega
                have e2 : (48 + UInt8.ofNat (acc s 3) / 10 % 10 : UInt8) = s.getD 2 0 := by rw [u8_eq, dig2, hxn, ha]; omega
                have e3 : (48 + UInt8.ofNat (acc s 3) % 10 : UInt8) = s.getD 3 0 := by rw [u8_eq, dig3, hxn, ha]; omega
                rw [e1, e2, e3]
            refine ⟨?_, by simp, by simp; omega⟩
            rw [e]
            rw [k1, k2, k3, h92e] at hs0
            exact hs0
        · exact absurd rfl h0
theorem escB_pos (x : UInt8) : 1 ≤ (escB x).length := by rcases escB_cases x with ⟨_, e⟩ | ⟨_, e⟩ | ⟨_, e⟩ <;> rw [e] <;> simp
/-- A: the reference reads the canonical text -/
theorem rp_escL : ∀ (l : List UInt8) (r : List UInt8) (f : Nat) (n : List (List UInt8)) (lab : List UInt8), rp (f + l.length) (escL l ++ r) n lab = rp f r n (lab ++ l) := by
  intro l
  induction l with
  | nil => intro r f n lab; simp [escL]
  | cons x l ih =>
    intro r f n lab
    have e : escL (x :: l) = escB x ++ escL l := by simp [escL]
    obtain ⟨p1, p2, p3, p4⟩ := piece_esc x (escL l ++ r)
    have hp := escB_pos x
    rw [e, List.append_assoc, show f + (x :: l).length = (f + l.length) + 1 by simp; omega, rp, if_neg (List.ne_nil_of_length_pos (by rw [List.length_append]; omega)), if_neg p2, if_neg (by omega), p1]
    simp only
    rw [if_neg (by omega), List.drop_left' rfl, ih r f n (lab ++ [x]), List.append_assoc]
    rfl
theorem rp_join : ∀ (m : List (List UInt8)) (l : List UInt8) (f : Nat) (n : List (List UInt8)) (lab : List UInt8), (escL l ++ m.flatMap (fun k => 46 :: escL k)).length + 1 ≤ f → rp f (escL l ++ m.flatMap (fun k => 46 :: escL k)) n lab = some (n ++ (lab ++ l) :: m) := by
  intro m
  induction m with
  | nil =>
    intro l f n lab hf
    rw [List.flatMap_nil, List.append_nil] at hf
    have hp := escL_pos l
    obtain ⟨f', rfl⟩ : ∃ f', f = (f' + 1) + l.length := ⟨f - l.length - 1, by omega⟩
    rw [List.flatMap_nil, rp_escL, rp, if_pos rfl]
  | cons k m ih =>
    intro l f n lab hf
    have hp := escL_pos l
    rw [List.flatMap_cons, List.length_append, List.length_append, List.length_cons] at hf
    obtain ⟨f', rfl⟩ : ∃ f', f = (f' + 1) + l.length := ⟨f - l.length - 1, by omega⟩
    rw [rp_escL, List.flatMap_cons, List.cons_append, rp, if_neg (by simp), if_pos (by rfl), List.drop_succ_cons, List.drop_zero, ih k f' (n ++ [lab ++ l]) [] (by rw [List.length_append]; omega)]
    simp
/-- B: it reads no other text -/
theorem rp_inv : ∀ (f : Nat) (s : List UInt8) (n : List (List UInt8)) (lab : List UInt8) (N : List (List UInt8)), rp f s n lab = some N → ∃ l m, N = n ++ (lab ++ l) :: m ∧ s = tjoin (l :: m) := by
  intro f
  induction f with
  | zero => intro s n lab N h; cases h
  | succ f ih =>
    intro s n lab N h
    rw [rp] at h
    by_cases h0 : s = []
    · rw [if_pos h0] at h
      cases h
      exact ⟨[], [], by simp, by rw [h0]; rfl⟩
    · rw [if_neg h0] at h
      have hl : 0 < s.length := List.length_pos_iff.2 h0
      by_cases h46 : s.getD 0 0 = 46
      · rw [if_pos h46] at h
        obtain ⟨l, m, e1, e2⟩ := ih _ _ _ _ h
        refine ⟨[], l :: m, by rw [e1]; simp, ?_⟩
        have hs : s = s.getD 0 0 :: s.drop 1 := by
          have := List.drop_eq_getElem_cons hl
          rw [List.drop_zero] at this
          rw [List.getD_eq_getElem?_getD, List.getElem?_eq_getElem hl]
          exact this
        rw [hs, h46, e2]
        simp [tjoin, escL]
      · rw [if_neg h46] at h
        by_cases h33 : (s.getD 0 0).toNat < 33 ∨ 126 < (s.getD 0 0).toNat
        · rw [if_pos h33] at h; cases h
        · rw [if_neg h33] at h
          by_cases hp : (pieceN s).2 = 0
          · rw [if_pos hp] at h; cases h
          · rw [if_neg hp] at h
            obtain ⟨l, m, e1, e2⟩ := ih _ _ _ _ h
            have hi := (piece_inv s h0 h46 h33 hp).1
            refine ⟨(pieceN s).1 :: l, m, by rw [e1]; simp, ?_⟩
            rw [e2] at hi
            refine hi.trans ?_
            simp only [tjoin, escL, List.flatMap_cons, List.append_assoc]
/-- the two agree -/
theorem rparse_eq (s : List UInt8) : ((rparse s).1, ((rparse s).2 : Int)) = parseN s := by
  unfold rparse
  by_cases h0 : smallS s = [46]
  · rw [if_pos h0]; unfold parseN; rw [if_pos h0]; rfl
  · rw [if_neg h0]
    have hls : (smallS s).length = s.length := smallS_length s
    have fail : (∀ n, rp ((smallS s).length + 1) (smallS s) [] [] = some n → rightN n = false) → parseN s = ([], 164) := by
      intro hf
      unfold parseN
      rw [if_neg h0]
      by_cases h1 : 1020 < s.length
      · rw [if_pos h1]
      · rw [if_neg h1]
        by_cases h2 : rightN (pl (smallS s) (s.length + 1) 0 [] []) = true ∧ textN (pl (smallS s) (s.length + 1) 0 [] []) = smallS s
        · exfalso
          obtain ⟨h3, h4⟩ := h2
          generalize pl (smallS s) (s.length + 1) 0 [] [] = n at h3 h4
          have hn : n ≠ [] := by
            intro h; rw [h] at h4
            exact h0 h4.symm
          have h5 : tjoin n = smallS s := by rw [← h4]; unfold textN; rw [if_neg hn]
          cases n with
          | nil => exact absurd rfl hn
          | cons l m =>
            have h6 := rp_join m l ((smallS s).length + 1) [] [] (by
              have : (escL l ++ m.flatMap fun k => 46 :: escL k) = smallS s := h5
              rw [this]; omega)
            rw [show (escL l ++ m.flatMap fun k => 46 :: escL k) = smallS s from h5] at h6
            have h7 := hf _ h6
            simp only [List.nil_append] at h7
            rw [h3] at h7; cases h7
        · rw [if_neg h2]
    cases hr : rp ((smallS s).length + 1) (smallS s) [] [] with
    | none =>
      simp only
      rw [fail (fun n h => by rw [hr] at h; cases h)]; rfl
    | some n =>
      simp only
      by_cases hrt : rightN n = true
      · rw [if_pos hrt]
        obtain ⟨l, m, e1, e2⟩ := rp_inv _ _ _ _ _ hr
        simp only [List.nil_append] at e1
        subst e1
        have hp := parse_text (l :: m) hrt
        have hsm : smallS (smallS s) = smallS s := smallS_idem s
        -- Parse looks at the small letters alone
        have hpl := pl_text (l :: m) (by simp) (s.length + 1) (by rw [← e2]; omega)
        have hlen := tjoin_length (l :: m)
        have hsz := size_right hrt
        unfold parseN
        rw [if_neg h0, if_neg (by rw [← hls, e2]; omega), e2, hpl, if_pos ⟨hrt, by unfold textN; rw [if_neg (by simp)]⟩]
        rfl
      · rw [if_neg hrt, fail (fun n' h => by rw [hr] at h; cases h; simpa using hrt)]; rfl
end Go.Proofs.YtnfgcfljjmjmpaaDoor
