/-
  Plain facts on reading a name: what is read is right; bytes behind the next offset do not matter; one byte less is too short.
-/
import Derived.Test.YtlipmlbijddopaaRead
set_option linter.unusedVariables false
namespace Go.Proofs.Ytlipmlbijddopaa
open Go.RowKit

theorem smallB_idem (c : UInt8) : smallB (smallB c) = smallB c := by
  by_cases h : 65 ≤ (c.toNat : Int) ∧ (c.toNat : Int) ≤ 90
  · have h1 := smallB_yes c h.1 h.2
    exact smallB_no _ (by omega)
  · rw [smallB_no c h, smallB_no c h]
theorem smallS_idem (l : List UInt8) : smallS (smallS l) = smallS l := by
  unfold smallS
  rw [List.map_map]
  exact List.map_congr_left fun c _ => smallB_idem c
theorem sizeN_snoc (n : List (List UInt8)) (l : List UInt8) : sizeN (n ++ [l]) = sizeN n + (1 + l.length) := by
  have h1 := sizeN_append n [l]
  simp only [sizeN] at h1
  omega

/-- the pieces that a round reads are the same -/
theorem getD_take_eq {b b' : List UInt8} {M p : Nat} (h : b'.take M = b.take M) (hp : p < M) : b'.getD p 0 = b.getD p 0 := by
  have e : ∀ x : List UInt8, x.getD p 0 = (x.take M).getD p 0 := fun x => by
    rw [List.getD_eq_getElem?_getD, List.getD_eq_getElem?_getD, List.getElem?_take_of_lt hp]
  rw [e b', e b, h]
theorem piece_take_eq {b b' : List UInt8} {M p c : Nat} (h : b'.take M = b.take M) (hp : p + c ≤ M) : (b'.drop p).take c = (b.drop p).take c := by
  have e : ∀ x : List UInt8, (x.drop p).take c = ((x.take M).drop p).take c := fun x => by
    rw [List.drop_take, List.take_take, Nat.min_eq_left (by omega)]
  rw [e b', e b, h]
theorem take_take_of {b b' : List UInt8} {M m : Nat} (h : b'.take M = b.take M) (hm : m ≤ M) : b'.take m = b.take m := by
  have e : ∀ x : List UInt8, x.take m = (x.take M).take m := fun x => by rw [List.take_take, Nat.min_eq_left hm]
  rw [e b', e b, h]

theorem rdM_lab {b : List UInt8} {f bg en p c : Nat} (hf : rdM b bg en p ≤ f + 1) (hp : p < en) (hc : p + 1 + c ≤ en) : rdM b bg en (p + (1 + c)) ≤ f := by
  unfold rdM at hf ⊢; omega
theorem rdM_ptr {b : List UInt8} {f bg en p q : Nat} (hf : rdM b bg en p ≤ f + 1) (hp : p < en) (hb : bg ≤ b.length) (hq : q < bg) : rdM b q bg q ≤ f := by
  unfold rdM at hf ⊢
  have h1 : (q + 1) * (b.length + 2) ≤ bg * (b.length + 2) := Nat.mul_le_mul_right _ hq
  rw [Nat.add_mul, Nat.one_mul] at h1
  omega

/-- what is read is right, or an error with nothing -/
theorem rd_right (b : List UInt8) : ∀ (f bg en p nx sz : Nat) (out : List (List UInt8)), rdM b bg en p ≤ f → bg ≤ b.length → en ≤ b.length → sz = sizeN out → sz ≤ 255 → out.all okL = true →
    ((rd b f bg en p nx sz out).2.2 = 0 ∧ rightN (rd b f bg en p nx sz out).1 = true) ∨
    ((rd b f bg en p nx sz out).1 = [] ∧ (rd b f bg en p nx sz out).2.1 = 0 ∧ ((rd b f bg en p nx sz out).2.2 = 161 ∨ (rd b f bg en p nx sz out).2.2 = 162 ∨ (rd b f bg en p nx sz out).2.2 = 163 ∨ (rd b f bg en p nx sz out).2.2 = 3)) := by
  intro f
  induction f with
  | zero => intro bg en p nx sz out hf; have := rdM_pos b bg en p; omega
  | succ f ih =>
    intro bg en p nx sz out hf hbg hen hsz hs ho
    rw [rd]
    by_cases hp : p < en
    · rw [if_pos hp]
      by_cases h0 : (b.getD p 0).toNat = 0
      · rw [if_pos h0]
        refine .inl ⟨rfl, ?_⟩
        unfold rightN
        rw [ho, ← hsz]; simp [hs]
      · rw [if_neg h0]
        by_cases h1 : (b.getD p 0).toNat < 64
        · rw [if_pos h1]
          by_cases h2 : 255 < sz + (1 + (b.getD p 0).toNat)
          · rw [if_pos h2]; exact .inr ⟨rfl, rfl, .inr (.inr (.inr rfl))⟩
          · rw [if_neg h2]
            by_cases h3 : en < p + 1 + (b.getD p 0).toNat
            · rw [if_pos h3]; exact .inr ⟨rfl, rfl, .inl rfl⟩
            · rw [if_neg h3]
              have hl : (smallS ((b.drop (p + 1)).take (b.getD p 0).toNat)).length = (b.getD p 0).toNat := by
                simp only [smallS, List.length_map, List.length_take, List.length_drop]; omega
              refine ih _ _ _ _ _ _ (rdM_lab hf hp (by omega)) hbg hen (by rw [sizeN_snoc, hl]; omega) (by omega) ?_
              rw [List.all_append, ho]
              simp only [List.all_cons, List.all_nil, Bool.and_true, Bool.true_and]
              unfold okL
              rw [hl, smallS_idem]
              simp only [ne_eq, h0, not_false_eq_true, decide_true, Bool.and_true, Bool.true_and, decide_eq_true_eq]
              omega
        · rw [if_neg h1]
          by_cases h2 : (b.getD p 0).toNat < 192
          · rw [if_pos h2]; exact .inr ⟨rfl, rfl, .inr (.inl rfl)⟩
          · rw [if_neg h2]
            by_cases h3 : p + 1 = en
            · rw [if_pos h3]; exact .inr ⟨rfl, rfl, .inl rfl⟩
            · rw [if_neg h3]
              by_cases h4 : bg ≤ ((b.getD p 0).toNat - 192) * 256 + (b.getD (p + 1) 0).toNat
              · rw [if_pos h4]; exact .inr ⟨rfl, rfl, .inr (.inr (.inl rfl))⟩
              · rw [if_neg h4]
                exact ih _ _ _ _ _ _ (rdM_ptr hf hp hbg (by omega)) (by omega) hbg hsz hs ho
    · rw [if_neg hp]; exact .inr ⟨rfl, rfl, .inl rfl⟩

/-- in a later part nothing behind the part's end counts -/
theorem rd_later (b b' : List UInt8) : ∀ (f f' bg en p nx sz : Nat) (out : List (List UInt8)), rdM b bg en p ≤ f → rdM b' bg en p ≤ f' → bg ≤ en → en ≤ b.length → en ≤ b'.length → b'.take en = b.take en → nx ≠ 0 →
    rd b' f' bg en p nx sz out = rd b f bg en p nx sz out ∧ ((rd b f bg en p nx sz out).2.2 = 0 → (rd b f bg en p nx sz out).2.1 = nx) := by
  intro f
  induction f with
  | zero => intro f' bg en p nx sz out hf; have := rdM_pos b bg en p; omega
  | succ f ih =>
    intro f' bg en p nx sz out hf hf' hbg hen hen' ht hn
    obtain ⟨g, rfl⟩ : ∃ g, f' = g + 1 := ⟨f' - 1, by have := rdM_pos b' bg en p; omega⟩
    rw [rd, rd]
    by_cases hp : p < en
    · rw [if_pos hp, if_pos hp, getD_take_eq ht hp]
      by_cases h0 : (b.getD p 0).toNat = 0
      · rw [if_pos h0, if_pos h0, if_neg hn]; exact ⟨rfl, fun _ => rfl⟩
      · rw [if_neg h0, if_neg h0]
        by_cases h1 : (b.getD p 0).toNat < 64
        · rw [if_pos h1, if_pos h1]
          by_cases h2 : 255 < sz + (1 + (b.getD p 0).toNat)
          · rw [if_pos h2, if_pos h2]; exact ⟨rfl, fun h => absurd h (by decide)⟩
          · rw [if_neg h2, if_neg h2]
            by_cases h3 : en < p + 1 + (b.getD p 0).toNat
            · rw [if_pos h3, if_pos h3]; exact ⟨rfl, fun h => absurd h (by decide)⟩
            · rw [if_neg h3, if_neg h3, piece_take_eq ht (by omega)]
              exact ih _ _ _ _ _ _ _ (rdM_lab hf hp (by omega)) (rdM_lab hf' hp (by omega)) hbg hen hen' ht hn
        · rw [if_neg h1, if_neg h1]
          by_cases h2 : (b.getD p 0).toNat < 192
          · rw [if_pos h2, if_pos h2]; exact ⟨rfl, fun h => absurd h (by decide)⟩
          · rw [if_neg h2, if_neg h2]
            by_cases h3 : p + 1 = en
            · rw [if_pos h3, if_pos h3]; exact ⟨rfl, fun h => absurd h (by decide)⟩
            · rw [if_neg h3, if_neg h3, getD_take_eq ht (show p + 1 < en by omega)]
              by_cases h4 : bg ≤ ((b.getD p 0).toNat - 192) * 256 + (b.getD (p + 1) 0).toNat
              · rw [if_pos h4, if_pos h4]; exact ⟨rfl, fun h => absurd h (by decide)⟩
              · rw [if_neg h4, if_neg h4, if_neg hn]
                exact ih _ _ _ _ _ _ _ (rdM_ptr hf hp (by omega) (by omega)) (rdM_ptr hf' hp (by omega) (by omega)) (by omega) (by omega) (by omega) (take_take_of ht hbg) hn
    · rw [if_neg hp, if_neg hp]; exact ⟨rfl, fun h => absurd h (by decide)⟩

/-- in the first part: where it ends, and what is read with other bytes behind -/
theorem rd_first (b : List UInt8) : ∀ (f bg p sz : Nat) (out : List (List UInt8)), rdM b bg b.length p ≤ f → bg ≤ p → (rd b f bg b.length p 0 sz out).2.2 = 0 →
    p < (rd b f bg b.length p 0 sz out).2.1 ∧ (rd b f bg b.length p 0 sz out).2.1 ≤ b.length ∧
    (∀ (b' : List UInt8) (f' : Nat), rdM b' bg b'.length p ≤ f' → b'.take (rd b f bg b.length p 0 sz out).2.1 = b.take (rd b f bg b.length p 0 sz out).2.1 → (rd b f bg b.length p 0 sz out).2.1 ≤ b'.length →
      rd b' f' bg b'.length p 0 sz out = rd b f bg b.length p 0 sz out) ∧
    (∀ (b' : List UInt8) (f' : Nat), rdM b' bg b'.length p ≤ f' → b' = b.take ((rd b f bg b.length p 0 sz out).2.1 - 1) → rd b' f' bg b'.length p 0 sz out = ([], 0, 161)) := by
  intro f
  induction f with
  | zero => intro bg p sz out hf; have := rdM_pos b bg b.length p; omega
  | succ f ih =>
    intro bg p sz out hf hbg
    rw [rd]
    by_cases hp : p < b.length
    · rw [if_pos hp]
      by_cases h0 : (b.getD p 0).toNat = 0
      · rw [if_pos h0, if_pos rfl]
        refine fun _ => ⟨by simp, by simp; omega, fun b' f' hf' ht hl => ?_, fun b' f' hf' hb' => ?_⟩
        · simp only at ht hl
          obtain ⟨g, rfl⟩ : ∃ g, f' = g + 1 := ⟨f' - 1, by have := rdM_pos b' bg b'.length p; omega⟩
          rw [rd, if_pos (by omega), getD_take_eq ht (by omega), if_pos h0, if_pos rfl]
        · simp only [Nat.add_sub_cancel] at hb'
          have hl : b'.length = p := by rw [hb', List.length_take]; omega
          obtain ⟨g, rfl⟩ : ∃ g, f' = g + 1 := ⟨f' - 1, by have := rdM_pos b' bg b'.length p; omega⟩
          rw [rd, if_neg (by omega)]
      · rw [if_neg h0]
        by_cases h1 : (b.getD p 0).toNat < 64
        · rw [if_pos h1]
          by_cases h2 : 255 < sz + (1 + (b.getD p 0).toNat)
          · rw [if_pos h2]; exact fun h => absurd h (by decide)
          · rw [if_neg h2]
            by_cases h3 : b.length < p + 1 + (b.getD p 0).toNat
            · rw [if_pos h3]; exact fun h => absurd h (by decide)
            · rw [if_neg h3]
              intro h
              obtain ⟨i1, i2, i3, i4⟩ := ih bg (p + (1 + (b.getD p 0).toNat)) (sz + (1 + (b.getD p 0).toNat)) _ (rdM_lab hf hp (by omega)) (by omega) h
              refine ⟨by omega, i2, fun b' f' hf' ht hl => ?_, fun b' f' hf' hb' => ?_⟩
              · obtain ⟨g, rfl⟩ : ∃ g, f' = g + 1 := ⟨f' - 1, by have := rdM_pos b' bg b'.length p; omega⟩
                rw [rd, if_pos (by omega), getD_take_eq ht (by omega), if_neg h0, if_pos h1, if_neg h2, if_neg (by omega), piece_take_eq ht (by omega)]
                exact i3 b' g (rdM_lab hf' (by omega) (by omega)) ht hl
              · have hl : b'.length = (rd b f bg b.length (p + (1 + (b.getD p 0).toNat)) 0 (sz + (1 + (b.getD p 0).toNat)) (out ++ [smallS ((b.drop (p + 1)).take (b.getD p 0).toNat)])).2.1 - 1 := by rw [hb', List.length_take]; omega
                have ht : b'.take b'.length = b.take b'.length := by rw [List.take_length, hl]; exact hb'
                obtain ⟨g, rfl⟩ : ∃ g, f' = g + 1 := ⟨f' - 1, by have := rdM_pos b' bg b'.length p; omega⟩
                rw [rd, if_pos (by omega), getD_take_eq ht (by omega), if_neg h0, if_pos h1, if_neg h2, if_neg (by omega), piece_take_eq ht (by omega)]
                exact i4 b' g (rdM_lab hf' (by omega) (by omega)) hb'
        · rw [if_neg h1]
          by_cases h2 : (b.getD p 0).toNat < 192
          · rw [if_pos h2]; exact fun h => absurd h (by decide)
          · rw [if_neg h2]
            by_cases h3 : p + 1 = b.length
            · rw [if_pos h3]; exact fun h => absurd h (by decide)
            · rw [if_neg h3]
              by_cases h4 : bg ≤ ((b.getD p 0).toNat - 192) * 256 + (b.getD (p + 1) 0).toNat
              · rw [if_pos h4]; exact fun h => absurd h (by decide)
              · rw [if_neg h4, if_pos rfl]
                intro h
                have hM := rdM_ptr hf hp (by omega) (Nat.lt_of_not_le h4)
                obtain ⟨_, hnx⟩ := rd_later b b f f (((b.getD p 0).toNat - 192) * 256 + (b.getD (p + 1) 0).toNat) bg (((b.getD p 0).toNat - 192) * 256 + (b.getD (p + 1) 0).toNat) (p + 2) sz out hM hM (by omega) (by omega) (by omega) rfl (by omega)
                have hnx := hnx h
                rw [hnx]
                refine ⟨by omega, by omega, fun b' f' hf' ht hl => ?_, fun b' f' hf' hb' => ?_⟩
                · obtain ⟨g, rfl⟩ : ∃ g, f' = g + 1 := ⟨f' - 1, by have := rdM_pos b' bg b'.length p; omega⟩
                  rw [rd, if_pos (by omega), getD_take_eq ht (show p < p + 2 by omega), if_neg h0, if_neg h1, if_neg h2, if_neg (by omega), getD_take_eq ht (show p + 1 < p + 2 by omega), if_neg h4, if_pos rfl]
                  exact (rd_later b b' f g _ bg _ (p + 2) sz out hM (rdM_ptr hf' (by omega) (by omega) (by omega)) (by omega) (by omega) (by omega) (take_take_of ht (by omega)) (by omega)).1
                · have hl : b'.length = p + 1 := by rw [hb', List.length_take]; omega
                  have ht : b'.take (p + 1) = b.take (p + 1) := by rw [hb', List.take_take]; congr 1; omega
                  obtain ⟨g, rfl⟩ : ∃ g, f' = g + 1 := ⟨f' - 1, by have := rdM_pos b' bg b'.length p; omega⟩
                  rw [rd, if_pos (by omega), getD_take_eq ht (show p < p + 1 by omega), if_neg h0, if_neg h1, if_neg h2, if_pos (by omega)]
    · rw [if_neg hp]; exact fun h => absurd h (by decide)

/-- nothing behind the end of the part counts -/
theorem rd_local (b b' : List UInt8) : ∀ (f f' bg en p nx sz : Nat) (out : List (List UInt8)), rdM b bg en p ≤ f → rdM b' bg en p ≤ f' → bg ≤ en → en ≤ b.length → en ≤ b'.length → b'.take en = b.take en →
    rd b' f' bg en p nx sz out = rd b f bg en p nx sz out := by
  intro f
  induction f with
  | zero => intro f' bg en p nx sz out hf; have := rdM_pos b bg en p; omega
  | succ f ih =>
    intro f' bg en p nx sz out hf hf' hbg hen hen' ht
    obtain ⟨g, rfl⟩ : ∃ g, f' = g + 1 := ⟨f' - 1, by have := rdM_pos b' bg en p; omega⟩
    rw [rd, rd]
    by_cases hp : p < en
    · rw [if_pos hp, if_pos hp, getD_take_eq ht hp]
      by_cases h0 : (b.getD p 0).toNat = 0
      · rw [if_pos h0, if_pos h0]
      · rw [if_neg h0, if_neg h0]
        by_cases h1 : (b.getD p 0).toNat < 64
        · rw [if_pos h1, if_pos h1]
          by_cases h2 : 255 < sz + (1 + (b.getD p 0).toNat)
          · rw [if_pos h2, if_pos h2]
          · rw [if_neg h2, if_neg h2]
            by_cases h3 : en < p + 1 + (b.getD p 0).toNat
            · rw [if_pos h3, if_pos h3]
            · rw [if_neg h3, if_neg h3, piece_take_eq ht (by omega)]
              exact ih _ _ _ _ _ _ _ (rdM_lab hf hp (by omega)) (rdM_lab hf' hp (by omega)) hbg hen hen' ht
        · rw [if_neg h1, if_neg h1]
          by_cases h2 : (b.getD p 0).toNat < 192
          · rw [if_pos h2, if_pos h2]
          · rw [if_neg h2, if_neg h2]
            by_cases h3 : p + 1 = en
            · rw [if_pos h3, if_pos h3]
            · rw [if_neg h3, if_neg h3, getD_take_eq ht (show p + 1 < en by omega)]
              by_cases h4 : bg ≤ ((b.getD p 0).toNat - 192) * 256 + (b.getD (p + 1) 0).toNat
              · rw [if_pos h4, if_pos h4]
              · rw [if_neg h4, if_neg h4]
                exact ih _ _ _ _ _ _ _ (rdM_ptr hf hp (by omega) (by omega)) (rdM_ptr hf' hp (by omega) (by omega)) (by omega) (by omega) (by omega) (take_take_of ht hbg)
    · rw [if_neg hp, if_neg hp]
/-- a next offset that is known already changes nothing but the next offset -/
theorem rd_nx (b : List UInt8) : ∀ (f bg en p nx nx' sz : Nat) (out : List (List UInt8)), (rd b f bg en p nx sz out).1 = (rd b f bg en p nx' sz out).1 ∧ (rd b f bg en p nx sz out).2.2 = (rd b f bg en p nx' sz out).2.2 ∧
    (nx ≠ 0 → (rd b f bg en p nx sz out).2.2 = 0 → (rd b f bg en p nx sz out).2.1 = nx) ∧ ((rd b f bg en p nx sz out).2.2 ≠ 0 → rd b f bg en p nx sz out = ([], 0, (rd b f bg en p nx sz out).2.2)) := by
  intro f
  induction f with
  | zero => intro bg en p nx nx' sz out; exact ⟨rfl, rfl, fun _ h => absurd (show (999 : Nat) = 0 from h) (by decide), fun _ => rfl⟩
  | succ f ih =>
    intro bg en p nx nx' sz out
    rw [rd, rd]
    by_cases hp : p < en
    · rw [if_pos hp, if_pos hp]
      by_cases h0 : (b.getD p 0).toNat = 0
      · rw [if_pos h0, if_pos h0]; exact ⟨rfl, rfl, fun h _ => if_neg h, fun h => absurd rfl h⟩
      · rw [if_neg h0, if_neg h0]
        by_cases h1 : (b.getD p 0).toNat < 64
        · rw [if_pos h1, if_pos h1]
          by_cases h2 : 255 < sz + (1 + (b.getD p 0).toNat)
          · rw [if_pos h2, if_pos h2]; exact ⟨rfl, rfl, fun _ h => absurd h (by decide), fun _ => rfl⟩
          · rw [if_neg h2, if_neg h2]
            by_cases h3 : en < p + 1 + (b.getD p 0).toNat
            · rw [if_pos h3, if_pos h3]; exact ⟨rfl, rfl, fun _ h => absurd h (by decide), fun _ => rfl⟩
            · rw [if_neg h3, if_neg h3]
              exact ih _ _ _ _ _ _ _
        · rw [if_neg h1, if_neg h1]
          by_cases h2 : (b.getD p 0).toNat < 192
          · rw [if_pos h2, if_pos h2]; exact ⟨rfl, rfl, fun _ h => absurd h (by decide), fun _ => rfl⟩
          · rw [if_neg h2, if_neg h2]
            by_cases h3 : p + 1 = en
            · rw [if_pos h3, if_pos h3]; exact ⟨rfl, rfl, fun _ h => absurd h (by decide), fun _ => rfl⟩
            · rw [if_neg h3, if_neg h3]
              by_cases h4 : bg ≤ ((b.getD p 0).toNat - 192) * 256 + (b.getD (p + 1) 0).toNat
              · rw [if_pos h4, if_pos h4]; exact ⟨rfl, rfl, fun _ h => absurd h (by decide), fun _ => rfl⟩
              · rw [if_neg h4, if_neg h4]
                obtain ⟨i1, i2, i3, i4⟩ := ih (((b.getD p 0).toNat - 192) * 256 + (b.getD (p + 1) 0).toNat) bg (((b.getD p 0).toNat - 192) * 256 + (b.getD (p + 1) 0).toNat) (if nx = 0 then p + 2 else nx) (if nx' = 0 then p + 2 else nx') sz out
                refine ⟨i1, i2, fun hn h => ?_, i4⟩
                rw [if_neg hn] at i3 h ⊢
                exact i3 hn h
    · rw [if_neg hp, if_neg hp]; exact ⟨rfl, rfl, fun _ h => absurd h (by decide), fun _ => rfl⟩
/-- a pointer, by its part alone -/
theorem rd_jump (b : List UInt8) (f q bg nx sz : Nat) (out : List (List UInt8)) (hf : rdM b q bg q ≤ f) (hq : q < bg) (hb : bg ≤ b.length) (hn : nx ≠ 0) :
    rd b f q bg q nx sz out = (if (rd (b.take bg) (rdM (b.take bg) q (b.take bg).length q) q (b.take bg).length q 0 sz out).2.2 = 0 then ((rd (b.take bg) (rdM (b.take bg) q (b.take bg).length q) q (b.take bg).length q 0 sz out).1, nx, 0)
      else ([], 0, (rd (b.take bg) (rdM (b.take bg) q (b.take bg).length q) q (b.take bg).length q 0 sz out).2.2)) := by
  have hl : (b.take bg).length = bg := by rw [List.length_take]; omega
  rw [hl]
  rw [rd_local b (b.take bg) f (rdM (b.take bg) q bg q) q bg q 0 sz out hf (Nat.le_refl _) (by omega) hb (by omega) (by rw [List.take_take, Nat.min_self])]
  obtain ⟨i1, i2, i3, i4⟩ := rd_nx b f q bg q nx 0 sz out
  rw [← i1, ← i2]
  split
  · rename_i h0
    have h1 := i3 hn h0
    exact Prod.ext rfl (Prod.ext h1 h0)
  · rename_i h0
    exact i4 h0

/-! ### of readN -/
theorem readN_errs (b : List UInt8) (p : Nat) (hp : p ≤ b.length) : ((readN b p).2.2 = 0 ∧ rightN (readN b p).1 = true) ∨ ((readN b p).1 = [] ∧ (readN b p).2.1 = 0 ∧ ((readN b p).2.2 = 161 ∨ (readN b p).2.2 = 162 ∨ (readN b p).2.2 = 163 ∨ (readN b p).2.2 = 3)) := by
  unfold readN
  rw [if_pos hp]
  exact rd_right b _ _ _ _ _ _ _ (Nat.le_refl _) hp (Nat.le_refl _) rfl (by omega) rfl
theorem readN_next (b : List UInt8) (p : Nat) (hp : p ≤ b.length) (h : (readN b p).2.2 = 0) : p < (readN b p).2.1 ∧ (readN b p).2.1 ≤ b.length := by
  unfold readN at h ⊢
  rw [if_pos hp] at h ⊢
  have := rd_first b _ p p 1 [] (Nat.le_refl _) (Nat.le_refl _) h
  exact ⟨this.1, this.2.1⟩
theorem readN_behind (b : List UInt8) (p : Nat) (hp : p ≤ b.length) (h : (readN b p).2.2 = 0) (b' : List UInt8) (ht : b'.take (readN b p).2.1 = b.take (readN b p).2.1) (hl : (readN b p).2.1 ≤ b'.length) : readN b' p = readN b p := by
  have hn := readN_next b p hp h
  have e : readN b' p = rd b' (rdM b' p b'.length p) p b'.length p 0 1 [] := by unfold readN; rw [if_pos (by omega)]
  rw [e]
  unfold readN at h ht hl ⊢
  rw [if_pos hp] at h ht hl ⊢
  exact (rd_first b _ p p 1 [] (Nat.le_refl _) (Nat.le_refl _) h).2.2.1 b' _ (Nat.le_refl _) ht hl
theorem readN_less (b : List UInt8) (p : Nat) (hp : p ≤ b.length) (h : (readN b p).2.2 = 0) : readN (b.take ((readN b p).2.1 - 1)) p = ([], 0, 161) := by
  have hn := readN_next b p hp h
  have e : readN (b.take ((readN b p).2.1 - 1)) p = rd (b.take ((readN b p).2.1 - 1)) (rdM (b.take ((readN b p).2.1 - 1)) p (b.take ((readN b p).2.1 - 1)).length p) p (b.take ((readN b p).2.1 - 1)).length p 0 1 [] := by
    rw [readN, if_pos (by rw [List.length_take]; omega)]
  rw [e]
  unfold readN at h ⊢
  rw [if_pos hp] at h ⊢
  exact (rd_first b _ p p 1 [] (Nat.le_refl _) (Nat.le_refl _) h).2.2.2 _ _ (Nat.le_refl _) rfl
end Go.Proofs.Ytlipmlbijddopaa
