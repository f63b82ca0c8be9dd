/-
  AppP; Made
-/
import Derived.Test.YtlipmlbijddopaaGreatDoorZ07
import Derived.Test.YtlipmlbijddopaaGreatDoorZ05
import Derived.Test.YtlipmlbijddopaaGreatDoorZ06
set_option linter.unusedVariables false
namespace Go.Proofs.YtlipmlbijddopaaGreatDoor
open Go.RowKit

theorem drop_cons {b r : List UInt8} {p : Nat} {x : UInt8} (h : b.drop p = x :: r) : p < b.length ∧ b.getD p 0 = x ∧ b.drop (p + 1) = r := by
  have hp : p < b.length := by
    rcases Nat.lt_or_ge p b.length with h1 | h1
    · exact h1
    · rw [List.drop_eq_nil_of_le h1] at h; cases h
  rw [List.drop_eq_getElem_cons hp] at h
  injection h with h1 h2
  exact ⟨hp, by rw [List.getD_eq_getElem?_getD, List.getElem?_eq_getElem hp, h1]; rfl, h2⟩
theorem labS_cons (l : List UInt8) (m : List (List UInt8)) : labS (l :: m) = UInt8.ofNat l.length :: (l ++ labS m) := by simp [labS]
theorem okL_spec {l : List UInt8} (h : okL l = true) : 0 < l.length ∧ l.length < 64 ∧ smallS l = l := by
  unfold okL at h
  simp only [Bool.and_eq_true, decide_eq_true_eq] at h
  exact ⟨by omega, by omega, h.2⟩
/-- labels are read one after the other -/
theorem rd_labs (b : List UInt8) (bg en : Nat) : ∀ (m : List (List UInt8)) (f p nx sz : Nat) (out : List (List UInt8)) (rest : List UInt8), m.all okL = true → b.drop p = labS m ++ rest → p + (labS m).length ≤ en →
    sz + (labS m).length ≤ 255 → rd b (f + m.length) bg en p nx sz out = rd b f bg en (p + (labS m).length) nx (sz + (labS m).length) (out ++ m) := by
  intro m
  induction m with
  | nil => intro f p nx sz out rest _ _ _ _; simp [labS]
  | cons l m ih =>
    intro f p nx sz out rest hm hd he hs
    simp only [List.all_cons, Bool.and_eq_true] at hm
    obtain ⟨h1, h2, h3⟩ := okL_spec hm.1
    have hlen : (labS (l :: m)).length = 1 + l.length + (labS m).length := by rw [labS_cons]; simp; omega
    rw [labS_cons, List.cons_append] at hd
    obtain ⟨hp, hx, hd1⟩ := drop_cons hd
    have hxn : (b.getD p 0).toNat = l.length := by rw [hx]; simp; omega
    rw [hlen] at he hs ⊢
    have hpc : (b.drop (p + 1)).take l.length = l := by rw [hd1, List.append_assoc, List.take_left' rfl]
    rw [show f + (l :: m).length = (f + m.length) + 1 by simp; omega, rd, if_pos (by omega), hxn, if_neg (by omega), if_pos h2, if_neg (by omega), if_neg (by omega), hpc, h3]
    have hd2 : b.drop (p + (1 + l.length)) = labS m ++ rest := by
      rw [show p + (1 + l.length) = (p + 1) + l.length by omega, ← List.drop_drop, hd1, List.append_assoc, List.drop_left' rfl]
    rw [ih f (p + (1 + l.length)) nx (sz + (1 + l.length)) (out ++ [l]) rest hm.2 hd2 (by omega) (by omega)]
    rw [show p + (1 + l.length) + (labS m).length = p + (1 + l.length + (labS m).length) by omega, show sz + (1 + l.length) + (labS m).length = sz + (1 + l.length + (labS m).length) by omega, List.append_assoc]
    rfl
/-- what was there before, and how much of it, does not matter -/
theorem rd_acc (b : List UInt8) : ∀ (f bg en p nx sz : Nat) (out : List (List UInt8)), en ≤ b.length → bg ≤ en → (rd b f bg en p nx sz out).2.2 = 0 →
    ∃ m, (rd b f bg en p nx sz out).1 = out ++ m ∧ ∀ (nx' sz' : Nat) (out' : List (List UInt8)), sz' + (labS m).length ≤ 255 → (rd b f bg en p nx' sz' out').1 = out' ++ m ∧ (rd b f bg en p nx' sz' out').2.2 = 0 := by
  intro f
  induction f with
  | zero => intro bg en p nx sz out _ _ h; exact absurd (show (999 : Nat) = 0 from h) (by decide)
  | succ f ih =>
    intro bg en p nx sz out hen hbg
    rw [rd]
    by_cases hp : p < en
    · rw [if_pos hp]
      by_cases h0 : (b.getD p 0).toNat = 0
      · rw [if_pos h0]
        refine fun _ => ⟨[], by simp, fun nx' sz' out' _ => ?_⟩
        rw [rd, if_pos hp, if_pos h0]; simp
      · rw [if_neg h0]
        by_cases h1 : (b.getD p 0).toNat < 64
        · rw [if_pos h1]
          by_cases h2 : 255 < sz + (1 + (b.getD p 0).toNat)
          · rw [if_pos h2]; exact fun h => absurd h (by decide)
          · rw [if_neg h2]
            by_cases h3 : en < p + 1 + (b.getD p 0).toNat
            · rw [if_pos h3]; exact fun h => absurd h (by decide)
            · rw [if_neg h3]
              intro h
              obtain ⟨m, hm, hall⟩ := ih _ _ _ _ _ _ hen hbg h
              have hl : (smallS ((b.drop (p + 1)).take (b.getD p 0).toNat)).length = (b.getD p 0).toNat := by
                simp only [smallS, List.length_map, List.length_take, List.length_drop]; omega
              refine ⟨smallS ((b.drop (p + 1)).take (b.getD p 0).toNat) :: m, by rw [hm]; simp, fun nx' sz' out' hs => ?_⟩
              have hlen : (labS (smallS ((b.drop (p + 1)).take (b.getD p 0).toNat) :: m)).length = 1 + (b.getD p 0).toNat + (labS m).length := by rw [labS_cons, List.length_cons, List.length_append, hl]; omega
              rw [hlen] at hs
              rw [rd, if_pos hp, if_neg h0, if_pos h1, if_neg (by omega), if_neg h3]
              obtain ⟨i1, i2⟩ := hall nx' (sz' + (1 + (b.getD p 0).toNat)) (out' ++ [smallS ((b.drop (p + 1)).take (b.getD p 0).toNat)]) (by omega)
              exact ⟨by rw [i1]; simp, i2⟩
        · rw [if_neg h1]
          by_cases h2 : (b.getD p 0).toNat < 192
          · rw [if_pos h2]; exact fun h => absurd h (by decide)
          · rw [if_neg h2]
            by_cases h3 : p + 1 = en
            · rw [if_pos h3]; exact fun h => absurd h (by decide)
            · rw [if_neg h3]
              by_cases h4 : bg ≤ ((b.getD p 0).toNat - 192) * 256 + (b.getD (p + 1) 0).toNat
              · rw [if_pos h4]; exact fun h => absurd h (by decide)
              · rw [if_neg h4]
                intro h
                obtain ⟨m, hm, hall⟩ := ih _ _ _ _ _ _ (by omega) (by omega) h
                refine ⟨m, hm, fun nx' sz' out' hs => ?_⟩
                rw [rd, if_pos hp, if_neg h0, if_neg h1, if_neg h2, if_neg h3, if_neg h4]
                exact hall _ _ _ hs
    · rw [if_neg hp]; exact fun h => absurd h (by decide)

theorem rightN_spec {n : List (List UInt8)} (h : rightN n = true) : n.all okL = true ∧ (labS n).length + 1 ≤ 255 := by
  have h1 := size_right h
  have h2 := labS_length n
  unfold rightN at h
  rw [Bool.and_eq_true] at h
  exact ⟨h.1, by omega⟩
theorem labS_append (a b : List (List UInt8)) : labS (a ++ b) = labS a ++ labS b := by simp [labS]
theorem labS_len_le (m : List (List UInt8)) : m.all okL = true → 2 * m.length ≤ (labS m).length := by
  induction m with
  | nil => simp [labS]
  | cons l m ih =>
    intro h
    simp only [List.all_cons, Bool.and_eq_true] at h
    obtain ⟨h1, _, _⟩ := okL_spec h.1
    have := ih h.2
    rw [labS_cons]; simp; omega
/-- a name in full is read as it was -/
theorem read_full (b tail : List UInt8) (n : List (List UInt8)) (hr : rightN n = true) : readN (b ++ (labS n ++ 0 :: tail)) b.length = (n, b.length + sizeN n, 0) := by
  obtain ⟨h1, h2⟩ := rightN_spec hr
  have h3 := labS_length n
  have h4 := labS_len_le n h1
  have hlen : (b ++ (labS n ++ 0 :: tail)).length = b.length + (labS n).length + 1 + tail.length := by simp; omega
  unfold readN
  rw [if_pos (by omega)]
  have hf : rdM (b ++ (labS n ++ 0 :: tail)) b.length (b ++ (labS n ++ 0 :: tail)).length b.length = (rdM (b ++ (labS n ++ 0 :: tail)) b.length (b ++ (labS n ++ 0 :: tail)).length b.length - 1 - n.length + 1) + n.length := by
    unfold rdM; omega
  rw [hf, rd_labs (b ++ (labS n ++ 0 :: tail)) b.length _ n _ b.length 0 1 [] (0 :: tail) h1 (by rw [List.drop_left' rfl]) (by omega) (by omega)]
  have hd : (b ++ (labS n ++ 0 :: tail)).drop (b.length + (labS n).length) = 0 :: tail := by
    rw [← List.drop_drop, List.drop_left' rfl, List.drop_left' rfl]
  obtain ⟨hp, hx, _⟩ := drop_cons hd
  rw [rd, if_pos hp, hx, if_pos (by rfl), if_pos rfl]
  rw [show b.length + (labS n).length + 1 = b.length + sizeN n by omega]
  rfl
/-- labels and a pointer to a place where the rest is read -/
theorem read_ptr (b : List UInt8) (pre suf : List (List UInt8)) (a : Nat) (hr : rightN (pre ++ suf) = true) (ha : a < 16384) (hab : a < b.length) (he : (readN b a).2.2 = 0) (hs : (readN b a).1 = suf) :
    readN (b ++ labS pre ++ ptr (a : Int)) b.length = (pre ++ suf, b.length + (labS pre).length + 2, 0) := by
  obtain ⟨h1, h2⟩ := rightN_spec hr
  rw [List.all_append, Bool.and_eq_true] at h1
  rw [labS_append, List.length_append] at h2
  have h4 := labS_len_le pre h1.1
  have hpl : (ptr (a : Int)).length = 2 := rfl
  obtain ⟨o, ho⟩ : ∃ o, o = b ++ labS pre ++ ptr (a : Int) := ⟨_, rfl⟩
  have hlen : o.length = b.length + (labS pre).length + 2 := by rw [ho]; simp [hpl]; omega
  rw [← ho]
  have ht : o.take b.length = b.take b.length := by rw [ho, List.append_assoc, List.take_left' rfl, List.take_length]
  unfold readN
  rw [if_pos (by omega)]
  have hf : rdM o b.length o.length b.length = (rdM o b.length o.length b.length - 1 - pre.length + 1) + pre.length := by
    unfold rdM; omega
  have hd0 : o.drop b.length = labS pre ++ ptr (a : Int) := by rw [ho, List.append_assoc, List.drop_left' rfl]
  have hF : rdM o a b.length a ≤ rdM o b.length o.length b.length - 1 - pre.length := by
    unfold rdM
    have e : (a + 1) * (o.length + 2) ≤ b.length * (o.length + 2) := Nat.mul_le_mul_right _ hab
    rw [Nat.add_mul, Nat.one_mul] at e
    omega
  rw [hf, rd_labs o b.length _ pre _ b.length 0 1 [] (ptr (a : Int)) h1.1 hd0 (by omega) (by omega)]
  have hd : o.drop (b.length + (labS pre).length) = ptr (a : Int) := by rw [← List.drop_drop, hd0, List.drop_left' rfl]
  obtain ⟨hp, hx, hd1⟩ := drop_cons (show o.drop (b.length + (labS pre).length) = UInt8.ofNat (192 + (a : Int).toNat / 256) :: [UInt8.ofNat (a : Int).toNat] from hd)
  obtain ⟨hp', hy, _⟩ := drop_cons hd1
  have hxn : (o.getD (b.length + (labS pre).length) 0).toNat = 192 + a / 256 := by rw [hx]; simp; omega
  have hyn : (o.getD (b.length + (labS pre).length + 1) 0).toNat = a % 256 := by rw [hy]; simp
  have hto : (192 + a / 256 - 192) * 256 + a % 256 = a := by omega
  rw [rd, if_pos hp, hxn, hyn, if_neg (by omega), if_neg (by omega), if_neg (by omega), if_neg (by omega), hto, if_neg (by omega), if_pos rfl]
  -- the rest, read in b alone
  have hrb : readN b a = rd b (rdM b a b.length a) a b.length a 0 1 [] := by unfold readN; rw [if_pos (by omega)]
  rw [hrb] at he hs
  obtain ⟨m, hm, hall⟩ := rd_acc b _ _ _ _ _ _ _ (Nat.le_refl _) (by omega) he
  rw [hs, List.nil_append] at hm
  subst hm
  obtain ⟨i1, i2⟩ := hall (b.length + (labS pre).length + 2) (1 + (labS pre).length) ([] ++ pre) (by omega)
  have hloc := rd_local b o (rdM b a b.length a) _ a b.length a (b.length + (labS pre).length + 2) (1 + (labS pre).length) ([] ++ pre) (Nat.le_refl _) hF (by omega) (Nat.le_refl _) (by omega) ht
  rw [hloc]
  have i3 := (rd_nx b (rdM b a b.length a) a b.length a (b.length + (labS pre).length + 2) 0 (1 + (labS pre).length) ([] ++ pre)).2.2.1 (by omega) i2
  exact Prod.ext (by rw [i1]; rfl) (Prod.ext i3 i2)
/-- a name appended: its shape -/
theorem app_shape (b : List UInt8) (known : List Int) (n : List (List UInt8)) : (appN b known n = b ++ labS n ++ [0] ∧ ∀ y, y < n.length → (placesN b known).find? (hit b (n.drop y)) = none) ∨
    ∃ (i a : Nat), i < n.length ∧ a < 16384 ∧ a < b.length ∧ (readN b a).2.2 = 0 ∧ (readN b a).1 = n.drop i ∧ appN b known n = b ++ labS (n.take i) ++ ptr (a : Int) ∧ ∀ y, y < i → (placesN b known).find? (hit b (n.drop y)) = none := by
  unfold appN
  by_cases h : ∀ y, y < n.length → (placesN b known).find? (hit b (n.drop y)) = none
  · left
    exact ⟨appGo_none b _ n n.length 0 (fun y _ hy => h y (by omega)), h⟩
  · right
    have hex : ∃ i, i < n.length ∧ ((placesN b known).find? (hit b (n.drop i))).isSome ∧ ∀ y, y < i → (placesN b known).find? (hit b (n.drop y)) = none := by
      have : ∃ i, i < n.length ∧ ((placesN b known).find? (hit b (n.drop i))).isSome := by
        apply Classical.byContradiction
        intro hc
        exact h fun y hy => by
          cases hf : (placesN b known).find? (hit b (n.drop y)) with
          | none => rfl
          | some a => exact absurd ⟨y, hy, by rw [hf]; rfl⟩ hc
      obtain ⟨i, hi⟩ := this
      induction i using Nat.strongRecOn with
      | ind i ih =>
        by_cases hall : ∀ y, y < i → (placesN b known).find? (hit b (n.drop y)) = none
        · exact ⟨i, hi.1, hi.2, hall⟩
        · have : ∃ y, y < i ∧ ((placesN b known).find? (hit b (n.drop y))).isSome := by
            apply Classical.byContradiction
            intro hc
            exact hall fun y hy => by
              cases hf : (placesN b known).find? (hit b (n.drop y)) with
              | none => rfl
              | some a => exact absurd ⟨y, hy, by rw [hf]; rfl⟩ hc
          obtain ⟨y, hy, hys⟩ := this
          exact ih y hy ⟨by omega, hys⟩
    obtain ⟨i, hi, his, hall⟩ := hex
    obtain ⟨a, ha⟩ := Option.isSome_iff_exists.1 his
    have hmem := List.mem_of_find?_eq_some ha
    have hh := List.find?_some ha
    obtain ⟨p1, p2⟩ := places_mem b known a hmem
    unfold hit at hh
    simp only [Bool.and_eq_true, decide_eq_true_eq] at hh
    have hg := (Good.of_read (by omega) hh.1.1).lt
    refine ⟨i, a.toNat, hi, by omega, hg, hh.1.1, hh.1.2, ?_, hall⟩
    rw [show ((a.toNat : Nat) : Int) = a by omega]
    exact appGo_some b _ n a i n.length 0 (by omega) (by omega) (fun y _ hy => hall y hy) ha
theorem app_reads (b : List UInt8) (known : List Int) (n : List (List UInt8)) (hr : rightN n = true) :
    readN (appN b known n) b.length = (n, (appN b known n).length, 0) ∧ b.length < (appN b known n).length ∧ (appN b known n).length ≤ b.length + sizeN n ∧ (appN b known n).take b.length = b := by
  have h3 := labS_length n
  rcases app_shape b known n with ⟨e, _⟩ | ⟨i, a, hi, ha, hab, he, hs, e, _⟩
  · rw [e]
    have h := read_full b [] n hr
    rw [← List.append_assoc] at h
    have hl : (b ++ labS n ++ [0]).length = b.length + sizeN n := by simp; omega
    rw [hl]
    exact ⟨h, by omega, by omega, by rw [List.append_assoc, List.take_left' rfl]⟩
  · rw [e]
    have hr' : rightN (n.take i ++ n.drop i) = true := by rw [List.take_append_drop]; exact hr
    have h := read_ptr b (n.take i) (n.drop i) a hr' ha hab he hs
    rw [List.take_append_drop] at h
    have hl : (b ++ labS (n.take i) ++ ptr (a : Int)).length = b.length + (labS (n.take i)).length + 2 := by simp [ptr]; omega
    have h5 : (labS n).length = (labS (n.take i)).length + (labS (n.drop i)).length := by rw [← List.length_append, ← labS_append, List.take_append_drop]
    have h6 := labS_len_le (n.drop i) (by
      have := (rightN_spec hr').1
      rw [List.all_append, Bool.and_eq_true] at this
      exact this.2)
    rw [List.length_drop] at h6
    rw [hl]
    exact ⟨h, by omega, by omega, by rw [List.append_assoc, List.take_left' rfl]⟩
end Go.Proofs.YtlipmlbijddopaaGreatDoor
set_option linter.unusedVariables false
set_option linter.unusedSimpArgs false
namespace Go.Proofs.YtlipmlbijddopaaGreatDoor
open Go.RowKit
def made1 (s : List UInt8) : List (List UInt8) := if s.take 20 = [] then [] else [smallS (s.take 20)]
def madeN (l : List (List UInt8)) : List (List UInt8) := (l.take 8).flatMap made1
theorem made1_ok (s : List UInt8) : (made1 s).all okL = true ∧ (labS (made1 s)).length ≤ 21 := by
  unfold made1
  split
  · simp [labS]
  · rename_i h
    have hl : (smallS (s.take 20)).length = (s.take 20).length := smallS_length _
    have h1 : (s.take 20).length ≤ 20 := by rw [List.length_take]; omega
    have h2 : 0 < (s.take 20).length := List.length_pos_iff.2 h
    refine ⟨?_, by rw [labS_cons]; simp [labS, hl]; omega⟩
    simp only [List.all_cons, List.all_nil, Bool.and_true]
    unfold okL
    rw [hl, smallS_idem, decide_eq_true (show (s.take 20).length ≠ 0 by omega), decide_eq_true (show (s.take 20).length ≤ 63 by omega)]
    simp
theorem made_flat (l : List (List UInt8)) : (l.flatMap made1).all okL = true ∧ (labS (l.flatMap made1)).length ≤ 21 * l.length := by
  induction l with
  | nil => simp [labS]
  | cons s l ih =>
    have h := made1_ok s
    rw [List.flatMap_cons, List.all_append, h.1, ih.1, labS_append, List.length_append, List.length_cons]
    exact ⟨rfl, by omega⟩
theorem right_of (n : List (List UInt8)) (h1 : n.all okL = true) (h2 : (labS n).length ≤ 254) : rightN n = true := by
  unfold rightN
  have := labS_length n
  rw [h1, decide_eq_true (show sizeN n ≤ 255 by omega)]; rfl
theorem made_ok (l : List (List UInt8)) : (madeN l).all okL = true ∧ (labS (madeN l)).length ≤ 168 := by
  have h := made_flat (l.take 8)
  have : (l.take 8).length ≤ 8 := by rw [List.length_take]; omega
  exact ⟨h.1, by have := h.2; unfold madeN; omega⟩
theorem made_right (l : List (List UInt8)) : rightN (madeN l) = true := right_of _ (made_ok l).1 (by have := (made_ok l).2; omega)
theorem made_len (l : List (List UInt8)) : (madeN l).length ≤ 84 := by
  have := labS_len_le _ (made_ok l).1
  have := (made_ok l).2
  omega
theorem flat_take (l : List (List UInt8)) (k : Nat) (h : k < l.length) : (l.take (k + 1)).flatMap made1 = (l.take k).flatMap made1 ++ made1 l[k] := by
  rw [List.take_succ_eq_append_getElem h, List.flatMap_append]; simp
theorem grownBy_set (w : World) (g k : Nat) (u : Value) : w.grownBy (w.setCell ⟨g, k, none⟩ u) (some g) :=
  ⟨rfl, rfl, rfl, by simp, fun i hi hne => Below.heap_setCell w ⟨g, k, none⟩ u i (fun e => hne (by rw [e]))⟩
theorem Ow.setNe {w : World} {base : Nat} {e : TypeId} {v : Value} {xs : List Value} (h : Ow w base e v xs) (g k : Nat) (u : Value) (hne : ∀ q, v.ownBlock = some q → q ≠ g) : Ow (w.setCell ⟨g, k, none⟩ u) base e v xs :=
  World.ownsRow.kept h (grownBy_set w g k u) (by
    cases hv : v.ownBlock with
    | none => exact .inl rfl
    | some q => exact .inr (fun e => hne q hv (by injection e)))
theorem smallB_up (c : UInt8) (h1 : 65 ≤ (c.toNat : Int)) (h2 : (c.toNat : Int) ≤ 90) : ((smallB c).toNat : Int) = c.toNat + 32 := by
  have := smallB_yes c h1 h2
  omega
set_option maxRecDepth 100000 in
set_option maxHeartbeats 1000000 in
theorem made_any (A : Option Addr) (c : Nat) (l : List (List UInt8)) (w : World) (h : Rd w w.heap.size A l.length (sc l)) (hc : l.length ≤ c) (hb : l.length * 16 ≤ 140737488351232) (hx : ∀ x ∈ l, x.length ≤ 140737488351232) :
    Calls Tryz.prog 30 #[.slice A l.length c] w fun e w' => ∃ v, e = .returned v ∧ Ow w' w.heap.size 9 v (sc (madeN l)) ∧ Below w.heap.size w w' := by
  obtain ⟨i0, hi, hz0, hz1, hz2⟩ := info_parts Tryz.infoStr
  obtain ⟨K, hK⟩ : ∃ K, K = min l.length 8 := ⟨_, rfl⟩
  have hmin : min (l.length : Int) 8 = (K : Int) := by omega
  have hK1 : K ≤ l.length := by omega
  have hK2 : K ≤ 8 := by omega
  have hKt : l.take K = l.take 8 := by
    rcases Nat.lt_or_ge l.length 8 with h1 | h1
    · rw [List.take_of_length_le (by omega), List.take_of_length_le (by omega)]
    · rw [show K = 8 by omega]
  have HK := Lib.hid hKt
  have HX := Lib.hid hx
  clear hKt hK hx
  have ksl : ∀ W, (Instr.slice 38 (.slice A l.length c) none (some (.int .i64 (K : Int))) none).run Tryz.prog W = .ok (.slice A K c) W := fun W => run_sl_h W _ 9 Tryz.underlying38 szStr A l.length c K (by omega)
  go_enter Tryz.func30, Tryz.ntmps30
  go_wp2_with fail
  go_loopw [3, 15] (fun v i wr => ∃ k : Nat, k ≤ K ∧ i = .int .i64 k ∧ Ow wr w.heap.size 9 v (sc ((l.take k).flatMap made1)) ∧ Below w.heap.size w wr) (fun _ i _ => K - (intOf i).toNat)
  case atStart => exact ⟨0, Nat.zero_le _, rfl, Ow.nil _ _ _, Below.refl _ _⟩
  case round =>
    obtain ⟨k, hk, rfl, hown, hbel⟩ := hrel
    have hszw := hbel.size
    by_cases hlt : k < K
    · have hr := h.below hbel
      have hkl : k < l.length := by omega
      obtain ⟨b, o, rfl, _, hcx⟩ := hr.at_ hkl
      have hcell := hcx k _ (sc_get l k hkl)
      have hft := flat_take l k hkl
      have hxl := HX.out _ (List.getElem_mem hkl)
      have hmf := (made_flat (l.take k)).2
      have hml := labS_len_le _ (made_flat (l.take k)).1
      rw [List.length_take] at hmf
      have hml2 : ((l.take k).flatMap made1).length ≤ 84 := by omega
      clear hmf hml
      generalize l[k] = s at hcell hft hxl
      have HF := Lib.hid hft
      clear hcx hr hft
      obtain ⟨m, hm⟩ : ∃ m, m = min s.length 20 := ⟨_, rfl⟩
      have hmin2 : min (s.length : Int) 20 = (m : Int) := by omega
      have hms : m ≤ s.length := by omega
      have hm20 : m ≤ 20 := by omega
      obtain ⟨t, ht⟩ : ∃ t, t = s.take m := ⟨_, rfl⟩
      have ht20 : t = s.take 20 := by
        rw [ht]
        rcases Nat.lt_or_ge s.length 20 with h1 | h1
        · rw [List.take_of_length_le (by omega), List.take_of_length_le (by omega)]
        · rw [show m = 20 by omega]
      have htl : t.length = m := by rw [ht, List.length_take]; omega
      have kcut := fun W => cutPre W s m hms
      rw [← ht] at kcut
      have HT := Lib.hid ht20
      clear ht hm ht20
      obtain ⟨cap, w1, hrun, hcap, hb1, hz1', hown1⟩ := conv_sb (P := Tryz.prog) wr 9 22 5 t Tryz.underlying9 Tryz.underlying22 Tryz.underlying5
      rw [htl] at hrun
      have HTL := Lib.hid htl
      clear htl
      have hown2 := hown.far hb1
      have hne : ∀ q, u3.ownBlock = some q → q ≠ wr.heap.size := fun q hq => by have := (World.ownsRow.lt hown q hq).2; omega
      have hbel1 := hbel.trans (hb1.mono hszw)
      obtain ⟨g, hg⟩ : ∃ g, g = wr.heap.size := ⟨_, rfl⟩
      go_wp2_with fail
      rw [← hg] at hown1 hne ⊢
      have hgB : w.heap.size ≤ g := by omega
      have hHg : Hid (g = wr.heap.size) := hg
      clear hg hrun hown hbel hb1 hz1'
      go_loopw [27] (fun j wq => ∃ i : Nat, i ≤ m ∧ j = .int .i64 i ∧ Own wq g (bc (mid t i)) ∧ Ow wq w.heap.size 9 u3 (sc ((l.take k).flatMap made1)) ∧ Below w.heap.size w wq) (fun j _ => m - (intOf j).toNat)
      case atStart => exact ⟨0, Nat.zero_le _, rfl, by rw [mid_zero]; exact hown1, hown2, hbel1⟩
      case round =>
        clear hown1 hown2 hbel1
        obtain ⟨i, him, rfl, ho1, ho2, hbq⟩ := hrel
        by_cases hlt2 : i < m
        · have hil : i < t.length := by rw [HTL.out]; exact hlt2
          have hmg := mid_get t i hil
          obtain ⟨hc1, hc2⟩ := ho1 i (.int .u8 (t[i].toNat : Int)) (by simp [bc, hmg])
          clear hmg
          go_wp2_with fail
          · have t1 : 65 ≤ (t[i].toNat : Int) := by assumption
            have t2 : (t[i].toNat : Int) ≤ 90 := by assumption
            go_roundw
            case rel => exact ⟨i + 1, by omega, by go_num, by rw [← smallB_up _ t1 t2, ← mid_set t i hil, ← bc_set]; exact ho1.set_ i _, ho2.setNe g i _ hne, hbq.setCell (by exact hgB) _⟩
            case measure => simp [intOf]; omega
          · have t2 : ¬ (t[i].toNat : Int) ≤ 90 := by first | assumption | (have h9 : 90 < (t[i].toNat : Int) := (by assumption); omega)
            go_roundw
            case rel => exact ⟨i + 1, by omega, by go_num, by rw [mid_same t i hil (smallB_no _ (fun h => t2 h.2))]; exact ho1, ho2, hbq⟩
            case measure => simp [intOf]; omega
          · have t2 : ¬ 65 ≤ (t[i].toNat : Int) := by first | assumption | (have h9 : (t[i].toNat : Int) < 65 := (by assumption); omega)
            go_roundw
            case rel => exact ⟨i + 1, by omega, by go_num, by rw [mid_same t i hil (smallB_no _ (fun h => t2 h.1))]; exact ho1, ho2, hbq⟩
            case measure => simp [intOf]; omega
        · rw [mid_all t i (by rw [HTL.out]; omega)] at ho1
          by_cases hm0 : m = 0
          · have hte : t = [] := List.eq_nil_of_length_eq_zero (by rw [HTL.out]; exact hm0)
            have hm1 : made1 s = [] := by unfold made1; rw [if_pos (by rw [← HT.out]; exact hte)]
            have HM := Lib.hid hm1
            clear hm1 hte
            subst hm0
            go_wp2_with fail
            go_roundw
            case rel => exact ⟨k + 1, by omega, by go_num, by rw [HF.out, HM.out, List.append_nil]; exact ho2, hbq⟩
            case measure => simp [intOf]; omega
          · have hm1 : made1 s = [smallS t] := by
              unfold made1
              rw [if_neg (by rw [← HT.out]; intro h0; have := HTL.out; rw [h0] at this; simp at this; omega), ← HT.out]
            have HM := Lib.hid hm1
            have hcv := conv_bs (P := Tryz.prog) wr 22 5 9 (some ⟨g, 0, none⟩) cap (g + 1) (smallS t) Tryz.underlying22 Tryz.underlying5 Tryz.underlying9 (by have := ho1.rd (B := g + 1) (by omega); simpa using this)
            rw [smallS_length, HTL.out] at hcv
            have hbqs := hbq.size
            clear hm1
            go_wp2_with (at_builtin; refine wpList_app _ rfl _ _ _ _ rfl w.heap.size 9 i0 (.string ⟨#[]⟩) 16 Tryz.underlying38 hi hz0 hz1 hz2 rfl (by omega) _ _ (ho2.alloc _) rfl 1 [_] (one_src Tryz.underlying38 _ rfl) (by rw [sc_length]; omega) (by simp; omega) ?_; intro v3 w3 hown3 hgr3 hsz3)
            go_roundw
            case rel =>
              refine ⟨k + 1, by omega, by go_num, ?_, hbq.trans ((((Gr.refl _ _).alloc _).trans hgr3).below ho2.lt hbqs)⟩
              rw [HF.out, HM.out]
              have e1 : sc ((l.take k).flatMap made1 ++ [smallS t]) = sc ((l.take k).flatMap made1) ++ [.string ⟨(smallS t).toArray⟩] := by simp [sc, strV]
              rw [e1]; exact hown3
            case measure => simp [intOf]; omega
    · have : k = K := by omega
      subst this
      go_wp2_with fail
      go_ret
      exact ⟨_, rfl, by unfold madeN; rw [← HK.out]; exact hown, hbel⟩
end Go.Proofs.YtlipmlbijddopaaGreatDoor
