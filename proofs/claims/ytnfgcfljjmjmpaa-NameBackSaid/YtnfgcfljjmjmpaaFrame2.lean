/-
  A slice of slices of strings that came in.
-/
import Derived.Test.YtnfgcfljjmjmpaaFrame
import Derived.Test.YtnfgcfljjmjmpaaOwns
set_option linter.unusedVariables false
namespace Go.Proofs.Ytnfgcfljjmjmpaa
open Go.ChangeShapes Go.WideShapes Go.ChangeAt Go.RowKit
theorem Try.cellsRow : Try.prog.cellsOf 25 = 1 := by kernel_rfl
theorem Try.bytesRow : Try.prog.bytesOf 25 = 24 := by kernel_rfl
section
variable {P : Program} {H : Type} {enc : TypeId × Value → H} {W : World}
theorem weights_all_mem {P : Program} {e : TypeId} {d : DataW H} {n : Nat} (hn : n ∈ d.weights P e) : ∀ {l : List (DataW H)}, d ∈ l → n ∈ DataW.weightsAll P e l := by
  intro l
  induction l with
  | nil => intro h; cases h
  | cons b l ih =>
    intro h
    simp only [DataW.weightsAll, List.mem_append]
    rcases List.mem_cons.1 h with rfl | h
    · exact .inl hn
    · exact .inr (ih h)
/-- one row: what a cell of the outer slice reads as -/
theorem open_row {t e : TypeId} {V : Value} {d : DataW H} {ps : List MemPlace} {n : Nat} (ht : P.underlying t = some (.slice e)) (he : P.underlying e = some .string) (hc : P.cellsOf e = 1) (hby : P.bytesOf e = 16)
    (h : DataW.trod enc P W 0 (fun _ => true) true n t [V] = some (d, ps)) (hre : ∀ n ∈ d.weights P t, n ≤ reachBytes) :
    ∃ r : Row, V = r.v ∧ Rd W W.heap.size r.A r.l.length (sc r.l) ∧ r.l.length ≤ r.c ∧ r.l.length * 16 ≤ 140737488351232 ∧ ∀ x ∈ r.l, x.length ≤ 140737488351232 := by
  rcases open_strings ht he hc h with ⟨hcs, hx⟩ | ⟨a, len, cap, ss, hcs, _, hl, hm, hz, hx, hcell, hwz⟩
  · simp only [List.cons.injEq, and_true] at hcs
    exact ⟨⟨none, 0, []⟩, hcs, Rd.nil _ _ _, by simp, by simp, by simp⟩
  · simp only [List.cons.injEq, and_true] at hcs
    subst hcs
    simp only [if_true] at hz
    simp only [Prod.mk.injEq] at hx
    obtain ⟨rfl, rfl⟩ := hx
    have hw := hre (((strs (H := H) (ss.take len)).length + (strs (H := H) (ss.drop len)).length) * P.bytesOf e) (by simp [DataW.weights, ht])
    simp only [strs, List.length_map, List.length_take, List.length_drop, hby, reachBytes, hz] at hw
    have hl2 : ((ss.take len).map fun s => s.data.toList).length = len := by rw [List.length_map, List.length_take, hz, Nat.min_eq_left hl]
    refine ⟨⟨some a, cap, (ss.take len).map fun s => s.data.toList⟩, ?_, ?_, ?_, ?_, fun x hx => ?_⟩
    · show _ = Value.slice (some a) _ cap
      rw [hl2]
    · show Rd W W.heap.size (some a) _ _
      rw [hl2]
      refine rd_of_cells _ (by simpa using hl2) fun j u hu => ?_
      unfold sc at hu
      rw [List.map_map, List.getElem?_map] at hu
      obtain ⟨s, hs1, rfl⟩ := Option.map_eq_some_iff.1 hu
      have hj : j < len := by
        rcases Nat.lt_or_ge j len with h1 | h1
        · exact h1
        · rw [List.getElem?_eq_none (by rw [List.length_take]; omega)] at hs1; cases hs1
      rw [List.getElem?_take_of_lt hj] at hs1
      rw [hcell j (by omega), List.getD_eq_getElem?_getD, hs1]
      simp [strV]
    · show _ ≤ cap
      rw [hl2]; exact hl
    · show (List.map _ _).length * 16 ≤ _
      rw [hl2]; omega
    · obtain ⟨s, hs, rfl⟩ := List.mem_map.1 hx
      have hw2 := hre s.data.toList.length (by
        simp only [DataW.weights, ht, List.mem_cons, List.mem_append]
        right; left
        exact weights_all_mem (d := .lit (.string s.data.toList)) (by simp [DataW.weights]) (List.mem_map.2 ⟨s, hs, rfl⟩))
      simpa [reachBytes] using hw2
theorem open_rr {base : Nat} {t e f : TypeId} {v : Value} {d : DataW H} {ps : List MemPlace} (ht : P.underlying t = some (.slice e)) (he : P.underlying e = some (.slice f)) (hf : P.underlying f = some .string) (hce : P.cellsOf e = 1) (hbe : P.bytesOf e = 24) (hc : P.cellsOf f = 1) (hby : P.bytesOf f = 16)
    (hval : Value.okWide P W .any base t v) (hd : DataW.Trod enc P W 0 (fun _ => true) true t v d ps) (hre : ∀ n ∈ d.weights P t, n ≤ reachBytes) :
    ∃ (A : Option Addr) (c : Nat) (rows : List Row), v = .slice A rows.length c ∧ rows.length ≤ c ∧ rows.length * 24 ≤ 140737488351232 ∧ RdR W W.heap.size A rows.length rows := by
  obtain ⟨a1, len, cap, rfl⟩ := okWide_slice ht hval
  obtain ⟨fuel, hfu⟩ := hd
  rcases Go.Deep.open_slice1 ht hce hfu with ⟨hcs, hx⟩ | ⟨a, len', cap', m, n, V, D, Pl, hcs, _, hl, hm, hmm, hx, hV⟩
  · simp [Value.cells] at hcs
    obtain ⟨rfl, rfl, rfl⟩ := hcs
    exact ⟨none, 0, [], rfl, Nat.le_refl _, by simp, Rd.nil _ _ _, fun _ h => by cases h⟩
  · simp [Value.cells] at hcs
    obtain ⟨rfl, rfl, rfl⟩ := hcs
    simp only [if_true] at hmm
    obtain rfl := hmm.symm
    simp only [Prod.mk.injEq] at hx
    obtain ⟨rfl, rfl⟩ := hx
    have hw := hre (((List.map D (List.range len)).length + (List.map (fun j => D (len + j)) (List.range (cap - len))).length) * P.bytesOf e) (by simp [DataW.weights, ht])
    simp only [List.length_map, List.length_range, hbe, reachBytes] at hw
    obtain ⟨R, hR⟩ := Go.Deep.choose_lt (α := Option Row) (n := len) (p := fun i o => ∃ r : Row, o = some r ∧ V i = r.v ∧ Rd W W.heap.size r.A r.l.length (sc r.l) ∧ r.l.length ≤ r.c ∧ r.l.length * 16 ≤ 140737488351232 ∧ ∀ x ∈ r.l, x.length ≤ 140737488351232) (fun i hi => by
      obtain ⟨h1, h2⟩ := hV i (by omega)
      obtain ⟨r, hr⟩ := open_row he hf hc hby h2 (fun n hn => hre n (by
        simp only [DataW.weights, ht, List.mem_cons, List.mem_append]
        right; left
        exact weights_all_mem hn (List.mem_map.2 ⟨i, List.mem_range.2 hi, rfl⟩)))
      exact ⟨some r, r, rfl, hr⟩)
    have hrl : ((List.range len).map fun i => (R i).getD ⟨none, 0, []⟩).length = len := by simp
    refine ⟨some a, cap, (List.range len).map fun i => (R i).getD ⟨none, 0, []⟩, by rw [hrl], by rw [hrl]; exact hl, by rw [hrl]; omega, ?_, fun r hr => ?_⟩
    · rw [hrl]
      refine rd_of_cells _ (by simp) fun j u hu => ?_
      rw [List.map_map, List.getElem?_map] at hu
      obtain ⟨i, hi, rfl⟩ := Option.map_eq_some_iff.1 hu
      have hj : j < len := by
        rcases Nat.lt_or_ge j len with h1 | h1
        · exact h1
        · rw [List.getElem?_eq_none (by simpa using h1)] at hi; cases hi
      rw [List.getElem?_range hj] at hi
      cases hi
      obtain ⟨r, e1, e2, _⟩ := hR j hj
      rw [(hV j (by omega)).1, e2]
      simp [e1]
    · obtain ⟨i, hi, rfl⟩ := List.mem_map.1 hr
      obtain ⟨r, e1, e2, e3⟩ := hR i (List.mem_range.1 hi)
      rw [e1]
      exact e3
end
end Go.Proofs.Ytnfgcfljjmjmpaa
