/-
  Slices of slices of bytes that came in; slices.ContainsFunc over them.
-/
import Derived.Test.YtkjibnhihdbmdaaDoorChunkFed
import Derived.Test.YtkjibnhihdbmdaaDoorChunkFr
set_option linter.unusedVariables false
set_option linter.unusedSimpArgs false
namespace Go.Proofs.YtkjibnhihdbmdaaDoor
open Go.ChangeShapes Go.WideShapes Go.ChangeAt Go.RowKit
theorem Tryd.cellsBs : Tryd.prog.cellsOf 22 = 1 := by kernel_rfl
theorem Tryd.bytesBs : Tryd.prog.bytesOf 22 = 24 := by kernel_rfl
section
variable {P : Program} {H : Type} {enc : TypeId × Value → H} {W : World}
theorem weights_all_memB {P : Program} {e : TypeId} {d : DataW H} {n : Nat} (hn : n ∈ d.weights P e) : ∀ {l : List (DataW H)}, d ∈ l → n ∈ DataW.weightsAll P e l := by
  intro l
  induction l with
  | nil => intro h; cases h
  | cons b l ih =>
    intro h
    simp only [DataW.weightsAll, List.mem_append]
    rcases List.mem_cons.1 h with rfl | h
    · exact .inl hn
    · exact .inr (ih h)
theorem open_rowB {t e : TypeId} {V : Value} {d : DataW H} {ps : List MemPlace} {n : Nat} (ht : P.underlying t = some (.slice e)) (he : P.underlying e = some (.int .u8)) (hc : P.cellsOf e = 1) (hby : P.bytesOf e = 1)
    (h : DataW.trod enc P W 0 (fun _ => true) true n t [V] = some (d, ps)) (hre : ∀ n ∈ d.weights P t, n ≤ reachBytes) :
    ∃ r : BRow, V = r.v ∧ r.ok W W.heap.size ∧ r.l.length ≤ 140737488351232 := by
  rcases open_ints ht he hc h with ⟨hcs, hx⟩ | ⟨a, len, cap, zs, hcs, _, hl, hm, hz, hx, hcell, hwz⟩
  · simp only [List.cons.injEq, and_true] at hcs
    exact ⟨⟨none, 0, []⟩, hcs, ⟨Rd.nil _ _ _, by simp⟩, by simp⟩
  · simp only [List.cons.injEq, and_true] at hcs
    subst hcs
    simp only [if_true] at hz
    simp only [Prod.mk.injEq] at hx
    obtain ⟨rfl, rfl⟩ := hx
    obtain ⟨l, hl1, hl2⟩ := bytes_of_wf (zs.take len) (fun z hz => hwz z (List.mem_of_mem_take hz))
    rw [List.length_take, hz, Nat.min_eq_left hl] at hl2
    have hw := hre (((lits (H := H) .u8 (zs.take len)).length + (lits (H := H) .u8 (zs.drop len)).length) * P.bytesOf e) (by simp [DataW.weights, ht])
    simp only [lits, List.length_map, List.length_take, List.length_drop, hby, reachBytes, hz] at hw
    refine ⟨⟨some a, cap, l⟩, by simp only [BRow.v]; rw [hl2], ⟨?_, by simp only; rw [hl2]; exact hl⟩, by simp only; omega⟩
    simp only
    rw [hl2]
    refine rd_of_cells _ (by simpa using hl2) fun j u hu => ?_
    rw [← hl1, List.getElem?_map] at hu
    obtain ⟨z, hz1, rfl⟩ := Option.map_eq_some_iff.1 hu
    have hj : j < len := by
      rcases Nat.lt_or_ge j len with h1 | h1
      · exact h1
      · rw [List.getElem?_eq_none (by rw [List.length_take]; omega)] at hz1; cases hz1
    rw [List.getElem?_take_of_lt hj] at hz1
    rw [hcell j (by omega), List.getD_eq_getElem?_getD, hz1]; rfl
theorem open_bb {base : Nat} {t e f : TypeId} {v : Value} {d : DataW H} {ps : List MemPlace} (ht : P.underlying t = some (.slice e)) (he : P.underlying e = some (.slice f)) (hf : P.underlying f = some (.int .u8)) (hce : P.cellsOf e = 1) (hbe : P.bytesOf e = 24) (hc : P.cellsOf f = 1) (hby : P.bytesOf f = 1)
    (hval : Value.okWide P W .any base t v) (hd : DataW.Trod enc P W 0 (fun _ => true) true t v d ps) (hre : ∀ n ∈ d.weights P t, n ≤ reachBytes) :
    ∃ (A : Option Addr) (c : Nat) (rows : List BRow), v = .slice A rows.length c ∧ rows.length ≤ c ∧ rows.length * 24 ≤ 140737488351232 ∧ RdB W W.heap.size A rows.length rows ∧ ∀ r ∈ rows, r.l.length ≤ 140737488351232 := by
  obtain ⟨a1, len, cap, rfl⟩ := okWide_slice ht hval
  obtain ⟨fuel, hfu⟩ := hd
  rcases Go.Deep.open_slice1 ht hce hfu with ⟨hcs, hx⟩ | ⟨a, len', cap', m, n, V, D, Pl, hcs, _, hl, hm, hmm, hx, hV⟩
  · simp [Value.cells] at hcs
    obtain ⟨rfl, rfl, rfl⟩ := hcs
    exact ⟨none, 0, [], rfl, Nat.le_refl _, by simp, ⟨Rd.nil _ _ _, fun _ h => by cases h⟩, fun _ h => by cases h⟩
  · simp [Value.cells] at hcs
    obtain ⟨rfl, rfl, rfl⟩ := hcs
    simp only [if_true] at hmm
    obtain rfl := hmm.symm
    simp only [Prod.mk.injEq] at hx
    obtain ⟨rfl, rfl⟩ := hx
    have hw := hre (((List.map D (List.range len)).length + (List.map (fun j => D (len + j)) (List.range (cap - len))).length) * P.bytesOf e) (by simp [DataW.weights, ht])
    simp only [List.length_map, List.length_range, hbe, reachBytes] at hw
    obtain ⟨R, hR⟩ := Go.Deep.choose_lt (α := Option BRow) (n := len) (p := fun i o => ∃ r : BRow, o = some r ∧ V i = r.v ∧ r.ok W W.heap.size ∧ r.l.length ≤ 140737488351232) (fun i hi => by
      obtain ⟨h1, h2⟩ := hV i (by omega)
      obtain ⟨r, hr⟩ := open_rowB he hf hc hby h2 (fun n hn => hre n (by
        simp only [DataW.weights, ht, List.mem_cons, List.mem_append]
        right; left
        exact weights_all_memB hn (List.mem_map.2 ⟨i, List.mem_range.2 hi, rfl⟩)))
      exact ⟨some r, r, rfl, hr⟩)
    have hrl : ((List.range len).map fun i => (R i).getD ⟨none, 0, []⟩).length = len := by simp
    refine ⟨some a, cap, (List.range len).map fun i => (R i).getD ⟨none, 0, []⟩, by rw [hrl], by rw [hrl]; exact hl, by rw [hrl]; omega, ⟨?_, fun r hr => ?_⟩, fun r hr => ?_⟩
    · rw [hrl]
      refine rd_of_cells _ (by simp) fun j u hu => ?_
      rw [List.map_map, List.getElem?_map] at hu
      obtain ⟨i, hi, rfl⟩ := Option.map_eq_some_iff.1 hu
      have hj : j < len := by
        rcases Nat.lt_or_ge j len with h1 | h1
        · exact h1
        · rw [List.getElem?_eq_none (by simpa using h1)] at hi; cases hi
      rw [List.getElem?_range hj] at hi
      cases hi
      obtain ⟨r, e1, e2, _⟩ := hR j hj
      rw [(hV j (by omega)).1, e2]
      simp [e1]
    · obtain ⟨i, hi, rfl⟩ := List.mem_map.1 hr
      obtain ⟨r, e1, e2, e3⟩ := hR i (List.mem_range.1 hi)
      rw [e1]
      exact e3.1
    · obtain ⟨i, hi, rfl⟩ := List.mem_map.1 hr
      obtain ⟨r, e1, e2, e3⟩ := hR i (List.mem_range.1 hi)
      rw [e1]
      exact e3.2
end
/-! ### gauger/gaugerlaw19.ChunkFeeds$1 handed to slices.ContainsFunc -/
def bbP (x : BRow) : Bool := decide (200 < (x.l.length : Int))
theorem bb_fn (x : BRow) (w : World) : Calls Tryd.prog 22 #[x.v] w fun e w' => e = .returned (.bool (bbP x)) ∧ w' = w := by
  unfold bbP BRow.v
  go_enter Tryd.func22, Tryd.ntmps22
  go_wp2
  go_ret
  exact ⟨ret_bool (by first | rfl | (simp <;> omega)), rfl⟩
theorem any_takeB {α : Type} (p : α → Bool) (l : List α) (k : Nat) (h : k < l.length) : (l.take (k + 1)).any p = ((l.take k).any p || p l[k]) := by
  rw [List.take_succ_eq_append_getElem h, List.any_append]; simp
set_option maxRecDepth 100000 in
set_option maxHeartbeats 400000 in
theorem bb_index (A : Option Addr) (c L : Nat) (l : List BRow) (w : World) (B : Nat) (hL : l.length = L) (h : Rd w B A L (l.map BRow.v)) (hl : L ≤ 140737488355328) :
    Calls Tryd.prog 45 #[.slice A L c, .func (.func 22) #[] #[]] w fun e w' => ∃ r : Int, e = .returned (.int .i64 r) ∧ decide (0 ≤ r) = l.any bbP ∧ w' = w := by
  subst hL
  go_enter Tryd.func45, Tryd.ntmps45
  go_wp2_with fail
  go_loopw [8] (fun i wr => ∃ k : Nat, k ≤ l.length ∧ i = .int .i64 k ∧ Hid ((l.take k).any bbP = false) ∧ w = wr) (fun i _ => l.length - (intOf i).toNat)
  case atStart => exact ⟨0, Nat.zero_le _, rfl, rfl, rfl⟩
  case round =>
    obtain ⟨k, hk, rfl, HN, rfl⟩ := hrel
    by_cases hlt : k < l.length
    · obtain ⟨b, o, rfl, _, hc⟩ := h.at_ hlt
      have hcell := hc k (l[k]).v (by simp [hlt])
      have ht := any_takeB bbP l k hlt
      have hmem : bbP l[k] = true → l.any bbP = true := fun h => List.any_eq_true.2 ⟨l[k], List.getElem_mem hlt, h⟩
      generalize l[k] = x at hcell ht hmem
      obtain ⟨rA, rc, rl⟩ := x
      replace hcell : w.cell? ⟨b, o + k, none⟩ = some (.slice rA rl.length rc) := hcell
      have HT := Lib.hid ht
      have HM := Lib.hid hmem
      clear hc ht hmem h
      have hf := fun W => bb_fn ⟨rA, rc, rl⟩ W
      cases hp : bbP ⟨rA, rc, rl⟩
      · rw [hp] at hf
        have HF := Lib.hid hf
        have hn : (l.take (k + 1)).any bbP = false := by rw [HT.out, HN.out, hp]; rfl
        have HN2 := Lib.hid hn
        clear hf hp hn
        go_wp2_with (go_at_call 22; refine (HF.out _).mono ?_; rintro e w1 ⟨rfl, rfl⟩)
        go_roundw
        case rel => exact ⟨k + 1, by omega, by go_num, HN2, trivial⟩
        case measure => simp [intOf]; omega
      · rw [hp] at hf
        have HF := Lib.hid hf
        have HA := Lib.hid (HM.out hp)
        clear hf hp
        go_wp2_with (go_at_call 22; refine (HF.out _).mono ?_; rintro e w1 ⟨rfl, rfl⟩)
        go_ret
        exact ⟨(k : Int), rfl, by rw [HA.out]; simp, rfl⟩
    · have : k = l.length := by omega
      subst this
      rw [List.take_length] at HN
      clear h
      go_wp2_with fail
      go_ret
      exact ⟨-1, rfl, by rw [HN.out]; rfl, rfl⟩
set_option maxRecDepth 100000 in
set_option maxHeartbeats 400000 in
theorem bb_contains (A : Option Addr) (c L : Nat) (l : List BRow) (r : Bool) (w : World) (hr : l.any bbP = r) (hL : l.length = L) (h : Rd w w.heap.size A L (l.map BRow.v)) (hl : L ≤ 140737488355328) :
    Calls Tryd.prog 21 #[.slice A L c, .func (.func 22) #[] #[]] w fun e w' => e = .returned (.bool r) ∧ w' = w := by
  subst hr
  go_enter Tryd.func21, Tryd.ntmps21
  go_wp2_with (go_at_call 45; refine (bb_index A c L l w w.heap.size hL h hl).mono ?_; rintro e w1 ⟨r, rfl, hr, rfl⟩)
  go_ret
  exact ⟨rfl, rfl⟩
end Go.Proofs.YtkjibnhihdbmdaaDoor
