/-
  NameJoins, under the guard.
-/
import Derived.Test.YtnfgcfljjmjmpaaDoorAt
import Derived.Deep.DeepCutAuto
set_option linter.unusedVariables false
set_option linter.unusedSimpArgs false
namespace Go.Proofs.YtnfgcfljjmjmpaaDoor
open Go.RowKit
theorem sc_append (a b : List (List UInt8)) : sc (a ++ b) = sc a ++ sc b := by simp [sc]
theorem Knows.step {w w' : World} {q : Nat} {l : List (Option Addr × Nat × List Value)} (h : Knows w l) (hq : w' = w.drewN q) : Knows w' l := by subst hq; exact h
theorem made1_len (s x : List UInt8) (h : x ∈ made1 s) : x.length ≤ 20 := by
  unfold made1 at h
  split at h
  · cases h
  · rw [List.mem_singleton] at h
    subst h
    rw [smallS_length, List.length_take]; omega
theorem made_mem (l : List (List UInt8)) (x : List UInt8) (h : x ∈ madeN l) : x.length ≤ 20 := by
  unfold madeN at h
  obtain ⟨s, _, hs⟩ := List.mem_flatMap.1 h
  exact made1_len s x hs
theorem labS_len20 (m : List (List UInt8)) (h : ∀ x ∈ m, x.length ≤ 20) : (labS m).length ≤ 21 * m.length := by
  induction m with
  | nil => simp [labS]
  | cons l m ih =>
    have h1 := h l (List.mem_cons_self ..)
    have h2 := ih (fun x hx => h x (List.mem_cons_of_mem _ hx))
    rw [labS_cons, List.length_cons, List.length_append, List.length_cons]; omega
/-- the plain law: P four labels at most, Z a zone of four at most -/
structure JoinP (P Z : List (List UInt8)) : Prop where
  rz : rightN Z = true
  rn : rightN (P ++ Z) = true
  un : underN (P ++ Z) Z = true
  sz : sizeN (P ++ Z) + 1 = sizeN P + sizeN Z
  rd : readN (appN (formN Z) [0] (P ++ Z)) (formN Z).length = (P ++ Z, (appN (formN Z) [0] (P ++ Z)).length, 0)
  le : Z ≠ [] → (appN (formN Z) [0] (P ++ Z)).length ≤ (formN Z).length + sizeN P - 1 + 2
  pl : (formN Z).length < (appN (formN Z) [0] (P ++ Z)).length ∧ (appN (formN Z) [0] (P ++ Z)).length ≤ 600
theorem find_le {α : Type} (l : List α) (p : α → Bool) (x : α) (hx : x ∈ l) (hp : p x = true) : l.find? p ≠ none := by
  intro h
  have := List.find?_eq_none.1 h x hx
  exact this hp
theorem joinP (P Z : List (List UInt8)) (hP : P.all okL = true) (hZ : Z.all okL = true) (hp : (labS P).length ≤ 84) (hz : (labS Z).length ≤ 84) : JoinP P Z := by
  have rz : rightN Z = true := right_of Z hZ (by omega)
  have rn : rightN (P ++ Z) = true := right_of _ (by rw [List.all_append, hP, hZ]; rfl) (by rw [labS_append, List.length_append]; omega)
  have sz := sizeN_append P Z
  have sp := labS_length P
  have szz := labS_length Z
  have fl := formN_length Z
  obtain ⟨a1, a2, a3, a4⟩ := app_reads (formN Z) [0] (P ++ Z) rn
  refine ⟨rz, rn, ?_, sz, a1, fun hne => ?_, a2, by omega⟩
  · unfold underN
    rw [List.length_append, decide_eq_true (show Z.length ≤ P.length + Z.length by omega)]
    rw [show P.length + Z.length - Z.length = P.length by omega, List.drop_left' rfl]
    simp
  · have h0 : readN (formN Z) 0 = (Z, sizeN Z, 0) := by
      have := read_full [] [] Z rz
      simpa [formN] using this
    have hpl : (0 : Int) ∈ placesN (formN Z) [0] := by
      unfold placesN
      rw [List.mem_mergeSort]
      unfold placesU
      rw [List.flatMap_cons, List.flatMap_nil, List.append_nil]
      unfold place1
      rw [if_pos ⟨by omega, by omega, by simpa using congrArg (fun r => r.2.2) h0⟩]
      exact List.mem_cons_self ..
    rcases app_shape (formN Z) [0] (P ++ Z) with ⟨e, hall⟩ | ⟨i, a, hi, ha, hab, he, hs, e, hall⟩
    · exfalso
      exact find_le (placesN (formN Z) [0]) (hit (formN Z) ((P ++ Z).drop P.length)) 0 hpl (by
        unfold hit
        rw [List.drop_left' rfl, show (0 : Int).toNat = 0 from rfl, h0]
        simp) (hall P.length (by rw [List.length_append]; have := List.length_pos_iff.2 hne; omega))
    · have hiP : i ≤ P.length := by
        rcases Nat.lt_or_ge P.length i with h | h
        · exfalso
          have := hall P.length h
          exact find_le (placesN (formN Z) [0]) (hit (formN Z) ((P ++ Z).drop P.length)) 0 hpl (by
            unfold hit
            rw [List.drop_left' rfl, show (0 : Int).toNat = 0 from rfl, h0]
            simp) this
        · exact h
      rw [e]
      have hl : (formN Z ++ labS ((P ++ Z).take i) ++ ptr (a : Int)).length = (formN Z).length + (labS ((P ++ Z).take i)).length + 2 := by simp [ptr]; omega
      have hl2 : (labS ((P ++ Z).take i)).length ≤ (labS P).length := by
        rw [List.take_append_of_le_length hiP]
        have := congrArg (fun x => (labS x).length) (List.take_append_drop i P)
        simp only [labS_append, List.length_append] at this
        omega
      omega

end Go.Proofs.YtnfgcfljjmjmpaaDoor
