/-
  Plain facts on the text of a name: the canonical text is read as the name, by the program and by the reference; the reference reads no other text.
-/
import Derived.Test.YtnfgcfljjmjmpaaDoorParse
import Derived.Test.YtnfgcfljjmjmpaaDoorAppP
set_option linter.unusedVariables false
set_option linter.unusedSimpArgs false
namespace Go.Proofs.YtnfgcfljjmjmpaaDoor
open Go.RowKit
theorem u8_eq {c d : UInt8} : c = d ↔ c.toNat = d.toNat := UInt8.toNat_inj.symm
theorem dig1 (x : UInt8) : (48 + x / 100 : UInt8).toNat = 48 + x.toNat / 100 := by have := UInt8.toNat_lt x; simp [UInt8.toNat_add]; omega
theorem dig2 (x : UInt8) : (48 + x / 10 % 10 : UInt8).toNat = 48 + x.toNat / 10 % 10 := by have := UInt8.toNat_lt x; simp [UInt8.toNat_add]; omega
theorem dig3 (x : UInt8) : (48 + x % 10 : UInt8).toNat = 48 + x.toNat % 10 := by have := UInt8.toNat_lt x; simp [UInt8.toNat_add]; omega
theorem sub48 (d : UInt8) (h : 48 ≤ d.toNat) : (d - 48).toNat = d.toNat - 48 := by
  have := UInt8.toNat_lt d
  rw [UInt8.toNat_sub]; simp; omega
theorem num3_esc (x : UInt8) : num3 (48 + x / 100) (48 + x / 10 % 10) (48 + x % 10) = x := by
  have hx := UInt8.toNat_lt x
  have h1 := dig1 x
  have h2 := dig2 x
  have h3 := dig3 x
  have e1 : (48 + x / 100 - 48 : UInt8).toNat = x.toNat / 100 := by rw [sub48 _ (by omega), h1]; omega
  have e2 : (48 + x / 10 % 10 - 48 : UInt8).toNat = x.toNat / 10 % 10 := by rw [sub48 _ (by omega), h2]; omega
  have e3 : (48 + x % 10 - 48 : UInt8).toNat = x.toNat % 10 := by rw [sub48 _ (by omega), h3]; omega
  unfold num3
  rw [e1, e2, e3, u8_eq, UInt8.toNat_ofNat']
  clear e1 e2 e3 h1 h2 h3
  have h4 : x.toNat / 10 / 10 = x.toNat / 100 := Nat.div_div_eq_div_mul _ _ _
  have h5 : x.toNat / 100 * 100 + x.toNat / 10 % 10 * 10 + x.toNat % 10 = x.toNat := by omega
  rw [h5]
  exact Nat.mod_eq_of_lt hx
theorem escB_cases (x : UInt8) : ((x.toNat = 46 ∨ x.toNat = 92) ∧ escB x = [92, x]) ∨ ((32 < x.toNat ∧ x.toNat < 127 ∧ x.toNat ≠ 46 ∧ x.toNat ≠ 92) ∧ escB x = [x]) ∨ (¬ (32 < x.toNat ∧ x.toNat < 127) ∧ escB x = [92, 48 + x / 100, 48 + x / 10 % 10, 48 + x % 10]) := by
  unfold escB
  by_cases h : x.toNat = 46 ∨ x.toNat = 92
  · rw [if_pos h]; exact .inl ⟨h, rfl⟩
  · rw [if_neg h]
    by_cases h2 : 32 < x.toNat ∧ x.toNat < 127
    · rw [if_pos h2]; exact .inr (.inl ⟨⟨h2.1, h2.2, by omega, by omega⟩, rfl⟩)
    · rw [if_neg h2]; exact .inr (.inr ⟨h2, rfl⟩)
theorem drop_getD {s r : List UInt8} {i : Nat} {p : List UInt8} (h : s.drop i = p ++ r) (k : Nat) (hk : k < p.length) : s.getD (i + k) 0 = p.getD k 0 ∧ i + k < s.length := by
  have hl := congrArg List.length h
  rw [List.length_drop, List.length_append] at hl
  refine ⟨?_, by omega⟩
  have e : s.getD (i + k) 0 = (s.drop i).getD k 0 := by rw [List.getD_eq_getElem?_getD, List.getD_eq_getElem?_getD, List.getElem?_drop]
  rw [e, h, List.getD_eq_getElem?_getD, List.getD_eq_getElem?_getD, List.getElem?_append_left hk]
/-- the program reads a byte that is written canonically -/
theorem pl_escB (s : List UInt8) (x : UInt8) (r : List UInt8) (f i : Nat) (pre : List (List UInt8)) (last : List UInt8) (h : s.drop i = escB x ++ r) :
    pl s (f + 1) i pre last = pl s f (i + (escB x).length) pre (last ++ [x]) := by
  rw [pl]
  rcases escB_cases x with ⟨hx, e⟩ | ⟨hx, e⟩ | ⟨hx, e⟩ <;> rw [e] at h ⊢
  · obtain ⟨g0, l0⟩ := drop_getD h 0 (by simp)
    obtain ⟨g1, l1⟩ := drop_getD h 1 (by simp)
    simp only [Nat.add_zero, List.getD_cons_zero, List.getD_cons_succ] at g0 g1 l0
    rw [if_pos l0, g0, if_neg (by decide), if_neg (by decide), g1, if_pos ⟨l1, by rcases hx with hx | hx; exact .inl (u8_eq.2 hx); exact .inr (u8_eq.2 hx)⟩]
    rfl
  · obtain ⟨g0, l0⟩ := drop_getD h 0 (by simp)
    simp only [Nat.add_zero, List.getD_cons_zero] at g0 l0
    rw [if_pos l0, g0, if_neg (by rw [u8_eq]; exact hx.2.2.1), if_pos (by rw [ne_eq, u8_eq]; exact hx.2.2.2)]
    rfl
  · have h1 := dig1 x
    have hxl := UInt8.toNat_lt x
    obtain ⟨g0, l0⟩ := drop_getD h 0 (by simp)
    obtain ⟨g1, l1⟩ := drop_getD h 1 (by simp)
    obtain ⟨g2, l2⟩ := drop_getD h 2 (by simp)
    obtain ⟨g3, l3⟩ := drop_getD h 3 (by simp)
    simp only [Nat.add_zero, List.getD_cons_zero, List.getD_cons_succ] at g0 g1 g2 g3 l0
    have n1 : ¬ (48 + x / 100 : UInt8) = 46 := by rw [u8_eq, h1]; simp; omega
    have n2 : ¬ (48 + x / 100 : UInt8) = 92 := by rw [u8_eq, h1]; simp; omega
    rw [if_pos l0, g0, if_neg (by decide), if_neg (by decide), g1, if_neg (by rintro ⟨_, h9 | h9⟩; exact n1 h9; exact n2 h9), if_pos l3, g2, g3, num3_esc]
    rfl
theorem pl_escL (s : List UInt8) : ∀ (l : List UInt8) (r : List UInt8) (f i : Nat) (pre : List (List UInt8)) (last : List UInt8), s.drop i = escL l ++ r →
    pl s (f + l.length) i pre last = pl s f (i + (escL l).length) pre (last ++ l) := by
  intro l
  induction l with
  | nil => intro r f i pre last _; simp [escL]
  | cons x l ih =>
    intro r f i pre last h
    have e : escL (x :: l) = escB x ++ escL l := by simp [escL]
    rw [e, List.append_assoc] at h
    rw [show f + (x :: l).length = (f + l.length) + 1 by simp; omega, pl_escB s x _ _ _ _ _ h]
    have h2 : s.drop (i + (escB x).length) = escL l ++ r := by rw [← List.drop_drop, h, List.drop_left' rfl]
    rw [ih r f _ pre (last ++ [x]) h2, e, List.length_append, List.append_assoc, Nat.add_assoc]
    rfl
theorem pl_end (s : List UInt8) (f i : Nat) (pre : List (List UInt8)) (last : List UInt8) (h : s.length ≤ i) : pl s f i pre last = pre ++ [last] := by
  cases f with
  | zero => rfl
  | succ f => rw [pl, if_neg (by omega)]
theorem escL_pos (l : List UInt8) : l.length ≤ (escL l).length := by
  induction l with
  | nil => simp [escL]
  | cons x l ih =>
    have e : escL (x :: l) = escB x ++ escL l := by simp [escL]
    rw [e, List.length_append, List.length_cons]
    have : 1 ≤ (escB x).length := by rcases escB_cases x with ⟨_, e⟩ | ⟨_, e⟩ | ⟨_, e⟩ <;> rw [e] <;> simp
    omega
theorem pl_join (s : List UInt8) : ∀ (m : List (List UInt8)) (l : List UInt8) (f i : Nat) (pre : List (List UInt8)) (last : List UInt8), s.drop i = escL l ++ m.flatMap (fun k => 46 :: escL k) → s.length + 1 ≤ f + i →
    pl s f i pre last = pre ++ (last ++ l) :: m := by
  intro m
  induction m with
  | nil =>
    intro l f i pre last h hf
    have hl := congrArg List.length h
    rw [List.length_drop] at hl
    simp only [List.flatMap_nil, List.append_nil] at hl h
    have hp := escL_pos l
    obtain ⟨f', rfl⟩ : ∃ f', f = f' + l.length := ⟨f - l.length, by omega⟩
    rw [pl_escL s l [] f' i pre last (by simpa using h), pl_end _ _ _ _ _ (by omega)]
  | cons k m ih =>
    intro l f i pre last h hf
    have hl := congrArg List.length h
    rw [List.length_drop, List.flatMap_cons, List.length_append, List.length_append, List.length_cons] at hl
    have hp := escL_pos l
    obtain ⟨f', rfl⟩ : ∃ f', f = (f' + 1) + l.length := ⟨f - l.length - 1, by omega⟩
    rw [pl_escL s l _ (f' + 1) i pre last h]
    have h2 : s.drop (i + (escL l).length) = [46] ++ (escL k ++ m.flatMap (fun k => 46 :: escL k)) := by
      rw [← List.drop_drop, h, List.drop_left' rfl, List.flatMap_cons]; simp
    obtain ⟨g0, l0⟩ := drop_getD h2 0 (by simp)
    simp only [Nat.add_zero, List.getD_cons_zero] at g0 l0
    rw [pl, if_pos l0, g0, if_pos rfl]
    have h3 : s.drop (i + (escL l).length + 1) = escL k ++ m.flatMap (fun k => 46 :: escL k) := by
      rw [← List.drop_drop, h2]; simp
    rw [ih k f' (i + (escL l).length + 1) (pre ++ [last ++ l]) [] h3 (by omega)]
    simp
/-- C: the program reads the canonical text -/
theorem pl_text (n : List (List UInt8)) (hn : n ≠ []) (f : Nat) (hf : (tjoin n).length + 1 ≤ f) : pl (tjoin n) f 0 [] [] = n := by
  cases n with
  | nil => exact absurd rfl hn
  | cons l m =>
    have := pl_join (tjoin (l :: m)) m l f 0 [] [] (by rw [List.drop_zero]; rfl) (by omega)
    simpa using this
theorem smallB_esc (x : UInt8) (h : smallB x = x) : smallS (escB x) = escB x := by
  have hd : ∀ d : UInt8, d.toNat < 65 → smallB d = d := fun d hd => smallB_no d (by omega)
  have hxl := UInt8.toNat_lt x
  rcases escB_cases x with ⟨_, e⟩ | ⟨_, e⟩ | ⟨_, e⟩ <;> rw [e] <;> simp only [smallS, List.map_cons, List.map_nil, h]
  · rfl
  · rw [hd (48 + x / 100) (by rw [dig1]; omega), hd (48 + x / 10 % 10) (by rw [dig2]; omega), hd (48 + x % 10) (by rw [dig3]; omega)]; rfl
theorem small_escL (l : List UInt8) (h : smallS l = l) : smallS (escL l) = escL l := by
  induction l with
  | nil => rfl
  | cons x l ih =>
    have e : escL (x :: l) = escB x ++ escL l := by simp [escL]
    have h' : smallB x = x ∧ smallS l = l := by
      simp only [smallS, List.map_cons, List.cons.injEq] at h
      exact h
    rw [e]
    have := smallB_esc x h'.1
    have i := ih h'.2
    simp only [smallS, List.map_append] at this i ⊢
    rw [this, i]
theorem small_join (n : List (List UInt8)) (h : n.all okL = true) : smallS (tjoin n) = tjoin n := by
  cases n with
  | nil => rfl
  | cons l m =>
    simp only [List.all_cons, Bool.and_eq_true] at h
    have hm : ∀ m : List (List UInt8), m.all okL = true → smallS (m.flatMap fun k => 46 :: escL k) = m.flatMap fun k => 46 :: escL k := by
      intro m
      induction m with
      | nil => intro _; rfl
      | cons k m ih =>
        intro h
        simp only [List.all_cons, Bool.and_eq_true] at h
        have h1 := small_escL k (okL_spec h.1).2.2
        have h2 := ih h.2
        simp only [List.flatMap_cons, smallS, List.map_append, List.map_cons] at h1 h2 ⊢
        rw [h1, h2]; rfl
    have h1 := small_escL l (okL_spec h.1).2.2
    have h2 := hm m h.2
    unfold tjoin
    simp only [smallS, List.map_append] at h1 h2 ⊢
    rw [h1, h2]
theorem tjoin_ne_dot (n : List (List UInt8)) (hn : n ≠ []) (h : n.all okL = true) : tjoin n ≠ [46] := by
  cases n with
  | nil => exact absurd rfl hn
  | cons l m =>
    simp only [List.all_cons, Bool.and_eq_true] at h
    obtain ⟨h1, _, _⟩ := okL_spec h.1
    cases l with
    | nil => simp at h1
    | cons x l =>
      intro h9
      have e : tjoin ((x :: l) :: m) = escB x ++ (escL l ++ m.flatMap fun k => 46 :: escL k) := by simp [tjoin, escL]
      rw [e] at h9
      rcases escB_cases x with ⟨hx, e⟩ | ⟨hx, e⟩ | ⟨hx, e⟩ <;> rw [e] at h9
      · simp at h9
      · simp at h9
        have := hx.2.2.1
        rw [h9.1] at this
        exact this rfl
      · simp at h9
/-- what Parse says of the text of a right name -/
theorem parse_text (n : List (List UInt8)) (hr : rightN n = true) : parseN (textN n) = (n, 0) := by
  obtain ⟨h1, _⟩ := rightN_spec hr
  unfold textN
  by_cases hn : n = []
  · rw [if_pos hn, hn]; rfl
  · rw [if_neg hn]
    unfold parseN
    have hl := tjoin_length n
    have hs := size_right hr
    have hp := pl_text n hn ((tjoin n).length + 1) (Nat.le_refl _)
    rw [small_join n h1, if_neg (tjoin_ne_dot n hn h1), if_neg (by omega), hp, if_pos ⟨hr, by unfold textN; rw [if_neg hn]⟩]
end Go.Proofs.YtnfgcfljjmjmpaaDoor
