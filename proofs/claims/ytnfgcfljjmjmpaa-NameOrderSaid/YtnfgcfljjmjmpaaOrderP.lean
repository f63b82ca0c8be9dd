/-
  The order of names: plain.
-/
import Derived.Test.YtnfgcfljjmjmpaaOrder
set_option linter.unusedVariables false
set_option linter.unusedSimpArgs false
namespace Go.Proofs.Ytnfgcfljjmjmpaa
open Go.RowKit
namespace Ord
theorem cb_cons (x y : UInt8) (a b : List UInt8) : Lib.compareBytes (x :: a) (y :: b) = if x < y then -1 else if y < x then 1 else Lib.compareBytes a b := rfl
theorem cb_range : ∀ a b : List UInt8, Lib.compareBytes a b = -1 ∨ Lib.compareBytes a b = 0 ∨ Lib.compareBytes a b = 1
  | [], [] => .inr (.inl rfl)
  | [], _ :: _ => .inl rfl
  | _ :: _, [] => .inr (.inr rfl)
  | x :: a, y :: b => by
    rw [cb_cons]
    split
    · exact .inl rfl
    · split
      · exact .inr (.inr rfl)
      · exact cb_range a b
theorem cb_neg : ∀ a b : List UInt8, Lib.compareBytes b a = -Lib.compareBytes a b
  | [], [] => rfl
  | [], _ :: _ => rfl
  | _ :: _, [] => rfl
  | x :: a, y :: b => by
    rw [cb_cons, cb_cons]
    by_cases h1 : x < y
    · rw [if_pos h1, if_neg (fun h => by have h3 := UInt8.lt_iff_toNat_lt.1 h1; have h4 := UInt8.lt_iff_toNat_lt.1 h; omega), if_pos h1]; rfl
    · by_cases h2 : y < x
      · rw [if_pos h2, if_neg h1, if_pos h2]
      · rw [if_neg h1, if_neg h2, if_neg h2, if_neg h1, cb_neg a b]
theorem cb_eq : ∀ a b : List UInt8, Lib.compareBytes a b = 0 → a = b
  | [], [], _ => rfl
  | [], _ :: _, h => by cases h
  | _ :: _, [], h => by cases h
  | x :: a, y :: b, h => by
    rw [cb_cons] at h
    by_cases h1 : x < y
    · rw [if_pos h1] at h; cases h
    · by_cases h2 : y < x
      · rw [if_neg h1, if_pos h2] at h; cases h
      · rw [if_neg h1, if_neg h2] at h
        have e : x = y := UInt8.toNat_inj.1 (by
          have h3 := mt UInt8.lt_iff_toNat_lt.2 h1
          have h4 := mt UInt8.lt_iff_toNat_lt.2 h2
          omega)
        rw [e, cb_eq a b h]
theorem cb_self : ∀ a : List UInt8, Lib.compareBytes a a = 0
  | [] => rfl
  | x :: a => by
    rw [cb_cons, if_neg (fun h => by have := UInt8.lt_iff_toNat_lt.1 h; omega), if_neg (fun h => by have := UInt8.lt_iff_toNat_lt.1 h; omega), cb_self a]
/-- smaller, and smaller or equal -/
theorem cb_trans : ∀ a b c : List UInt8, Lib.compareBytes a b ≤ 0 → Lib.compareBytes b c ≤ 0 → Lib.compareBytes a c ≤ 0 ∧ (Lib.compareBytes a c = 0 → Lib.compareBytes a b = 0 ∧ Lib.compareBytes b c = 0)
  | [], [], [], _, _ => ⟨by decide, fun _ => ⟨rfl, rfl⟩⟩
  | [], [], _ :: _, _, _ => ⟨(by first | exact (show (-1 : Int) ≤ 0 by decide) | decide), fun h => by cases h⟩
  | [], _ :: _, [], _, h => by exact absurd (show (1 : Int) ≤ 0 from h) (by decide)
  | [], _ :: _, _ :: _, _, _ => ⟨(by first | exact (show (-1 : Int) ≤ 0 by decide) | decide), fun h => by cases h⟩
  | _ :: _, [], _, h, _ => by exact absurd (show (1 : Int) ≤ 0 from h) (by decide)
  | _ :: _, _ :: _, [], _, h => by exact absurd (show (1 : Int) ≤ 0 from h) (by decide)
  | x :: a, y :: b, z :: c, h1, h2 => by
    rw [cb_cons] at h1 h2
    rw [cb_cons, cb_cons, cb_cons]
    by_cases xy : x < y
    · have xy' := UInt8.lt_iff_toNat_lt.1 xy
      by_cases yz : y < z
      · have yz' := UInt8.lt_iff_toNat_lt.1 yz
        rw [if_pos (UInt8.lt_iff_toNat_lt.2 (by omega) : x < z)]
        exact ⟨(by first | exact (show (-1 : Int) ≤ 0 by decide) | decide), fun h => by cases h⟩
      · by_cases zy : z < y
        · rw [if_neg yz, if_pos zy] at h2; exact absurd h2 (by decide)
        · have h3 := mt UInt8.lt_iff_toNat_lt.2 yz
          have h4 := mt UInt8.lt_iff_toNat_lt.2 zy
          rw [if_pos (UInt8.lt_iff_toNat_lt.2 (by omega) : x < z)]
          exact ⟨(by first | exact (show (-1 : Int) ≤ 0 by decide) | decide), fun h => by cases h⟩
    · by_cases yx : y < x
      · rw [if_neg xy, if_pos yx] at h1; exact absurd h1 (by decide)
      · have e : x = y := UInt8.toNat_inj.1 (by
          have h3 := mt UInt8.lt_iff_toNat_lt.2 xy
          have h4 := mt UInt8.lt_iff_toNat_lt.2 yx
          omega)
        subst e
        rw [if_neg xy, if_neg xy] at h1
        rw [if_neg xy, if_neg xy]
        by_cases yz : x < z
        · rw [if_pos yz]
          exact ⟨(by first | exact (show (-1 : Int) ≤ 0 by decide) | decide), fun h => by cases h⟩
        · by_cases zy : z < x
          · rw [if_neg yz, if_pos zy] at h2; exact absurd h2 (by decide)
          · simp only [if_neg yz, if_neg zy] at h2 ⊢
            exact cb_trans a b c h1 h2
theorem cr_cons (x y : List UInt8) (a b : List (List UInt8)) : cmpR (x :: a) (y :: b) = if Lib.compareBytes x y = 0 then cmpR a b else Lib.compareBytes x y := rfl
theorem cr_range : ∀ a b : List (List UInt8), cmpR a b = -1 ∨ cmpR a b = 0 ∨ cmpR a b = 1
  | [], [] => .inr (.inl rfl)
  | [], _ :: _ => .inl rfl
  | _ :: _, [] => .inr (.inr rfl)
  | x :: a, y :: b => by
    rw [cr_cons]
    split
    · exact cr_range a b
    · exact cb_range x y
theorem cr_neg : ∀ a b : List (List UInt8), cmpR b a = -cmpR a b
  | [], [] => rfl
  | [], _ :: _ => rfl
  | _ :: _, [] => rfl
  | x :: a, y :: b => by
    rw [cr_cons, cr_cons, cb_neg x y]
    by_cases h : Lib.compareBytes x y = 0
    · rw [if_pos (by omega), if_pos h, cr_neg a b]
    · rw [if_neg (by omega), if_neg h]
theorem cr_eq : ∀ a b : List (List UInt8), cmpR a b = 0 → a = b
  | [], [], _ => rfl
  | [], _ :: _, h => by cases h
  | _ :: _, [], h => by cases h
  | x :: a, y :: b, h => by
    rw [cr_cons] at h
    by_cases h1 : Lib.compareBytes x y = 0
    · rw [if_pos h1] at h
      rw [cb_eq x y h1, cr_eq a b h]
    · rw [if_neg h1] at h; exact absurd h h1
theorem cr_self : ∀ a : List (List UInt8), cmpR a a = 0
  | [] => rfl
  | x :: a => by rw [cr_cons, if_pos (cb_self x), cr_self a]
theorem cr_trans : ∀ a b c : List (List UInt8), cmpR a b ≤ 0 → cmpR b c ≤ 0 → cmpR a c ≤ 0
  | [], [], [], _, _ => by decide
  | [], [], _ :: _, _, _ => (show (-1 : Int) ≤ 0 by decide)
  | [], _ :: _, [], _, h => (show (0 : Int) ≤ 0 by decide)
  | [], _ :: _, _ :: _, _, _ => (show (-1 : Int) ≤ 0 by decide)
  | _ :: _, [], _, h, _ => by exact absurd (show (1 : Int) ≤ 0 from h) (by decide)
  | _ :: _, _ :: _, [], _, h => by exact absurd (show (1 : Int) ≤ 0 from h) (by decide)
  | x :: a, y :: b, z :: c, h1, h2 => by
    rw [cr_cons] at h1 h2 ⊢
    have h1' : Lib.compareBytes x y ≤ 0 := by
      by_cases h : Lib.compareBytes x y = 0
      · omega
      · rwa [if_neg h] at h1
    have h2' : Lib.compareBytes y z ≤ 0 := by
      by_cases h : Lib.compareBytes y z = 0
      · omega
      · rwa [if_neg h] at h2
    obtain ⟨h3, h4⟩ := cb_trans x y z h1' h2'
    by_cases h : Lib.compareBytes x z = 0
    · obtain ⟨h5, h6⟩ := h4 h
      rw [if_pos h5] at h1
      rw [if_pos h6] at h2
      rw [if_pos h]
      exact cr_trans a b c h1 h2
    · rw [if_neg h]; exact h3
/-- a prefix is before what it begins -/
theorem cr_pre : ∀ z a : List (List UInt8), cmpR z (z ++ a) ≤ 0
  | [], [] => by decide
  | [], _ :: _ => (show (-1 : Int) ≤ 0 by decide)
  | x :: z, a => by rw [List.cons_append, cr_cons, if_pos (cb_self x)]; exact cr_pre z a
/-- what is between two that begin alike begins alike -/
theorem cr_between : ∀ (z a b c : List (List UInt8)), cmpR (z ++ a) b ≤ 0 → cmpR b (z ++ c) ≤ 0 → ∃ d, b = z ++ d
  | [], a, b, c, _, _ => ⟨b, rfl⟩
  | x :: z, a, [], c, h, _ => by rw [List.cons_append] at h; exact absurd (show (1 : Int) ≤ 0 from h) (by decide)
  | x :: z, a, y :: b, c, h1, h2 => by
    rw [List.cons_append, cr_cons] at h1
    rw [List.cons_append, cr_cons, cb_neg x y] at h2
    have hxy : Lib.compareBytes x y = 0 := by
      by_cases h : Lib.compareBytes x y = 0
      · exact h
      · rw [if_neg h] at h1
        rw [if_neg (by omega)] at h2
        omega
    rw [if_pos hxy] at h1
    rw [if_pos (by omega)] at h2
    obtain ⟨d, hd⟩ := cr_between z a b c h1 h2
    exact ⟨d, by rw [hd, cb_eq x y hxy]; rfl⟩
theorem n_range (a b : List (List UInt8)) : cmpN a b = -1 ∨ cmpN a b = 0 ∨ cmpN a b = 1 := cr_range _ _
theorem n_neg (a b : List (List UInt8)) : cmpN b a = -cmpN a b := cr_neg _ _
theorem n_self (a : List (List UInt8)) : cmpN a a = 0 := cr_self _
theorem n_eq {a b : List (List UInt8)} (h : cmpN a b = 0) : a = b := List.reverse_inj.1 (cr_eq _ _ h)
theorem n_trans {a b c : List (List UInt8)} (h1 : cmpN a b ≤ 0) (h2 : cmpN b c ≤ 0) : cmpN a c ≤ 0 := cr_trans _ _ _ h1 h2
theorem under_iff (n z : List (List UInt8)) : underN n z = true ↔ ∃ p, n = p ++ z := by
  unfold underN
  rw [Bool.and_eq_true, decide_eq_true_iff, decide_eq_true_iff]
  constructor
  · rintro ⟨h1, h2⟩
    exact ⟨n.take (n.length - z.length), by conv => lhs; rw [← List.take_append_drop (n.length - z.length) n, h2]⟩
  · rintro ⟨p, rfl⟩
    rw [List.length_append]
    refine ⟨by omega, ?_⟩
    rw [show p.length + z.length - z.length = p.length by omega, List.drop_left]
theorem under_nil (n : List (List UInt8)) : underN n [] = true := (under_iff n []).2 ⟨n, by simp⟩
theorem under_self (n : List (List UInt8)) : underN n n = true := (under_iff n n).2 ⟨[], rfl⟩
theorem under_le {n z : List (List UInt8)} (h : underN n z = true) : cmpN z n ≤ 0 := by
  obtain ⟨p, rfl⟩ := (under_iff n z).1 h
  unfold cmpN
  rw [List.reverse_append]
  exact cr_pre _ _
theorem under_between {a b c z : List (List UInt8)} (ha : underN a z = true) (hc : underN c z = true) (h1 : cmpN a b ≤ 0) (h2 : cmpN b c ≤ 0) : underN b z = true := by
  obtain ⟨p, rfl⟩ := (under_iff a z).1 ha
  obtain ⟨q, rfl⟩ := (under_iff c z).1 hc
  unfold cmpN at h1 h2
  rw [List.reverse_append] at h1 h2
  obtain ⟨d, hd⟩ := cr_between _ _ _ _ h1 h2
  exact (under_iff b z).2 ⟨d.reverse, by rw [← List.reverse_reverse b, hd, List.reverse_append, List.reverse_reverse]⟩
end Ord
end Go.Proofs.Ytnfgcfljjmjmpaa
