/-
  SrvPp; SrvPq; SrvPicks; LSPicks
-/
import Derived.Test.YtlipmlbijddopaaGreatDoorZ25
import Derived.Test.YtlipmlbijddopaaGreatDoorZ28
import Derived.BigQuiet
import Derived.Deep.CutRange
import Derived.ArgAppend
import Derived.Test.YtlipmlbijddopaaGreatDoorZ03
import Derived.Test.YtlipmlbijddopaaGreatDoorTie
import Derived.Test.YtlipmlbijddopaaGreatDoorCards
set_option linter.unusedVariables false
set_option linter.unusedSimpArgs false
namespace Go.Proofs.YtlipmlbijddopaaGreatDoor
namespace Pk
open Srv
/-- the number n picks an address with this port, with what was counted before -/
def hit (L : List Ad) (lo n : Nat) (p : Int) : Bool := match firstA n lo L with
  | some a => decide (a.po = p)
  | none => false
def cntP (L : List Ad) (lo : Nat) (p : Int) : Nat := ((List.range (sumA L)).filter fun i => hit L lo (lo + 1 + i) p).length
def wtP (L : List Ad) (p : Int) : Nat := ((L.filter fun a => decide (a.po = p)).map wtA).sum
theorem sumA_cons (a : Ad) (L : List Ad) : sumA (a :: L) = wtA a + sumA L := by simp [sumA]
theorem wtP_cons (a : Ad) (L : List Ad) (p : Int) : wtP (a :: L) p = (if a.po = p then wtA a else 0) + wtP L p := by
  unfold wtP
  by_cases h : a.po = p <;> simp [List.filter, h]
theorem range_two (m n : Nat) : List.range (m + n) = List.range m ++ (List.range n).map (m + ·) := List.range_add
theorem cnt_line : ∀ (L : List Ad) (lo : Nat) (p : Int), cntP L lo p = wtP L p
  | [], lo, p => by simp [cntP, wtP, sumA]
  | a :: L, lo, p => by
    rw [wtP_cons, ← cnt_line L (lo + wtA a) p]
    unfold cntP
    rw [sumA_cons, range_two, List.filter_append, List.length_append]
    congr 1
    · have h : ∀ i ∈ List.range (wtA a), hit (a :: L) lo (lo + 1 + i) p = decide (a.po = p) := fun i hi => by
        have := List.mem_range.1 hi
        unfold hit
        rw [firstA, if_pos (by omega)]
      rw [List.filter_congr h]
      by_cases hp : a.po = p
      · simp only [hp, decide_true, if_true]
        rw [List.filter_eq_self.2 (fun _ _ => rfl), List.length_range]
      · simp [hp]
    · rw [List.filter_map, List.length_map]
      congr 1
      apply List.filter_congr
      intro i _
      show hit (a :: L) lo (lo + 1 + (wtA a + i)) p = hit L (lo + wtA a) (lo + wtA a + 1 + i) p
      unfold hit
      rw [firstA, if_neg (by omega), show lo + 1 + (wtA a + i) = lo + wtA a + 1 + i by omega]
/-- of the numbers from 0 to the sum -/
theorem cnt_all (L : List Ad) (p : Int) : ((List.range (sumA L + 1)).filter fun n => hit L 0 n p).length = (if hit L 0 0 p = true then 1 else 0) + wtP L p := by
  have h := cnt_line L 0 p
  unfold cntP at h
  rw [show sumA L + 1 = 1 + sumA L by omega, range_two, List.filter_append, List.length_append]
  congr 1
  · by_cases h0 : hit L 0 0 p = true
    · simp [List.range_succ, List.filter, h0]
    · simp [List.range_succ, List.filter, h0]
  · rw [List.filter_map, List.length_map, ← h]
    congr 1
theorem hit_zero (a : Ad) (L : List Ad) (p : Int) : hit (a :: L) 0 0 p = decide (a.po = p) := by
  unfold hit
  rw [firstA, if_pos (by omega)]
theorem wtP_perm {L K : List Ad} (h : L.Perm K) (p : Int) : wtP L p = wtP K p := by
  unfold wtP
  exact ((h.filter _).map wtA).sum_nat
/-- the first tier of a list whose priorities begin with 0 and do not fall -/
theorem head_zero {l : List Ad} (h0 : ∀ a ∈ l, 0 ≤ a.pr) (hs : l.Pairwise fun a b => a.pr ≤ b.pr) (hh : (l.headD zA).pr = 0) : headT l = l.filter fun a => decide (a.pr = 0) := by
  have ht := tiersA_tiers l
  unfold headT
  cases e : tiersA l with
  | nil =>
    rw [e] at ht
    have := ht.all
    subst this
    rfl
  | cons t ts =>
    rw [e] at ht
    have hall := ht.all
    rw [List.flatten_cons] at hall
    have htne := ht.some_ t (List.mem_cons_self ..)
    obtain ⟨x, xs, hx⟩ : ∃ x xs, t = x :: xs := by
      cases t with
      | nil => exact absurd rfl htne
      | cons x xs => exact ⟨x, xs, rfl⟩
    have hx0 : x.pr = 0 := by
      rw [← hall, hx] at hh
      exact hh
    have ht0 : ∀ a ∈ t, a.pr = 0 := fun a ha => by
      have := ht.same t (List.mem_cons_self ..) a ha
      rw [this, hx]; exact hx0
    have hrest : ∀ a ∈ ts.flatten, ¬ a.pr = 0 := by
      cases ts with
      | nil => intro a ha; cases ha
      | cons u us =>
        have hune := ht.some_ u (by simp)
        obtain ⟨y, ys, hy⟩ : ∃ y ys, u = y :: ys := by
          cases u with
          | nil => exact absurd rfl hune
          | cons y ys => exact ⟨y, ys, rfl⟩
        have hnx := ht.next 0 (by simp)
        simp only [List.getElem_cons_succ, List.getElem_cons_zero, hx, hy, List.headD_cons] at hnx
        have hpw := hs
        rw [← hall, List.pairwise_append] at hpw
        have hy0 : 0 < y.pr := by
          have h1 := h0 y (by rw [← hall, hy]; simp)
          rcases Int.lt_or_le 0 y.pr with h | h
          · exact h
          · exact absurd (show y.pr = x.pr by omega) hnx
        intro a ha
        have hp2 := hpw.2.1
        rw [List.flatten_cons, hy, List.cons_append, List.pairwise_cons] at hp2
        rw [List.flatten_cons, hy, List.cons_append] at ha
        rcases List.mem_cons.1 ha with rfl | ha
        · omega
        · have := hp2.1 a ha; omega
    rw [List.headD_cons, ← hall, List.filter_append]
    have e1 : t.filter (fun a => decide (a.pr = 0)) = t := by
      rw [List.filter_eq_self]
      intro a ha
      exact decide_eq_true (ht0 a ha)
    have e2 : ts.flatten.filter (fun a => decide (a.pr = 0)) = [] := by
      rw [List.filter_eq_nil_iff]
      intro a ha
      simp [hrest a ha]
    rw [e1, e2, List.append_nil]
end Pk
end Go.Proofs.YtlipmlbijddopaaGreatDoor
set_option linter.unusedVariables false
set_option linter.unusedSimpArgs false
namespace Go.Proofs.YtlipmlbijddopaaGreatDoor
namespace Pk
open Srv
def adP (d i w : Nat) : Ad := ⟨[], i, (i * d / 8 : Nat), w, 0⟩
/-- the first k addresses, of these weights -/
def mkK (W : List Nat) (d k : Nat) : List Ad := (List.range k).map fun i => adP d i (W.getD i 0)
theorem mkK_len (W : List Nat) (d k : Nat) : (mkK W d k).length = k := by simp [mkK]
theorem mkK_succ (W : List Nat) (d k : Nat) : mkK W d (k + 1) = mkK W d k ++ [adP d k (W.getD k 0)] := by
  unfold mkK
  rw [List.range_succ, List.map_append]; rfl
theorem mkK_get (W : List Nat) (d k : Nat) {i : Nat} (h : i < (mkK W d k).length) : (mkK W d k)[i] = adP d i (W.getD i 0) := by
  simp [mkK]
theorem mkK_take (W : List Nat) (d : Nat) {k n : Nat} (h : k ≤ n) : (mkK W d n).take k = mkK W d k := by
  unfold mkK
  rw [← List.map_take, List.take_range, Nat.min_eq_left h]
theorem mkK_mem {W : List Nat} {d k : Nat} {a : Ad} (h : a ∈ mkK W d k) : ∃ i, i < k ∧ a = adP d i (W.getD i 0) := by
  obtain ⟨i, hi, rfl⟩ := List.mem_map.1 h
  exact ⟨i, List.mem_range.1 hi, rfl⟩
/-- of the first tier -/
def in0 (a : Ad) : Bool := decide (a.pr = 0)
def sumP (W : List Nat) (d k : Nat) : Nat := sumA ((mkK W d k).filter in0)
def zeroP (W : List Nat) (d k : Nat) : Int := match (List.range k).find? fun i => in0 (adP d i (W.getD i 0)) && decide (W.getD i 0 = 0) with
  | some i => i
  | none => -1
def firstP (W : List Nat) (d n : Nat) : Nat := if 0 < zeroP W d n then (zeroP W d n).toNat else 0
theorem wt_ad (d i w : Nat) (h : w ≤ 65535) : wtA (adP d i w) = w := by
  unfold wtA adP
  dsimp only
  split
  · omega
  · split <;> omega
theorem sumP_zero (W : List Nat) (d : Nat) : sumP W d 0 = 0 := rfl
theorem sumP_succ (W : List Nat) (d k : Nat) (hw : W.getD k 0 ≤ 65535) : sumP W d (k + 1) = sumP W d k + if k * d / 8 = 0 then W.getD k 0 else 0 := by
  unfold sumP
  rw [mkK_succ, List.filter_append]
  have e : in0 (adP d k (W.getD k 0)) = decide (k * d / 8 = 0) := by unfold in0 adP; dsimp only; rw [Bool.eq_iff_iff]; simp only [decide_eq_true_eq]; omega
  by_cases h : k * d / 8 = 0
  · rw [if_pos h]
    have : [adP d k (W.getD k 0)].filter in0 = [adP d k (W.getD k 0)] := by rw [List.filter_cons, if_pos (by rw [e]; simpa using h)]; rfl
    rw [this, sumA_snoc, wt_ad d k _ hw]
  · rw [if_neg h]
    have : [adP d k (W.getD k 0)].filter in0 = [] := by rw [List.filter_cons, if_neg (by rw [e]; simpa using h)]; rfl
    rw [this, List.append_nil, Nat.add_zero]
theorem zeroP_zero (W : List Nat) (d : Nat) : zeroP W d 0 = -1 := rfl
theorem zeroP_succ (W : List Nat) (d k : Nat) : zeroP W d (k + 1) = if zeroP W d k < 0 ∧ k * d / 8 = 0 ∧ W.getD k 0 = 0 then (k : Int) else zeroP W d k := by
  unfold zeroP
  rw [List.range_succ, List.find?_append]
  have e : in0 (adP d k (W.getD k 0)) = decide (k * d / 8 = 0) := by unfold in0 adP; dsimp only; rw [Bool.eq_iff_iff]; simp only [decide_eq_true_eq]; omega
  cases h : (List.range k).find? fun i => in0 (adP d i (W.getD i 0)) && decide (W.getD i 0 = 0) with
  | some i =>
    dsimp only [Option.or]
    rw [if_neg (by omega)]
  | none =>
    by_cases h2 : k * d / 8 = 0 ∧ W.getD k 0 = 0
    · rw [if_pos ⟨by show (-1 : Int) < 0; decide, h2⟩]
      have hd : (in0 (adP d k (W.getD k 0)) && decide (W.getD k 0 = 0)) = true := by rw [e]; simp only [Bool.and_eq_true, decide_eq_true_eq]; exact h2
      simp only [Option.or, List.find?_cons, hd]
    · rw [if_neg (fun h3 => h2 h3.2)]
      have hd : (in0 (adP d k (W.getD k 0)) && decide (W.getD k 0 = 0)) = false := by rw [e, Bool.eq_false_iff]; simp only [Bool.and_eq_true, decide_eq_true_eq, ne_eq]; exact h2
      simp only [Option.or, List.find?_cons, hd, List.find?_nil]
theorem zeroP_lt (W : List Nat) (d k : Nat) : zeroP W d k < k ∧ -1 ≤ zeroP W d k := by
  unfold zeroP
  cases h : (List.range k).find? fun i => in0 (adP d i (W.getD i 0)) && decide (W.getD i 0 = 0) with
  | some i =>
    have := List.mem_range.1 (List.mem_of_find?_eq_some h)
    dsimp only; omega
  | none => dsimp only; omega
theorem firstP_lt (W : List Nat) (d : Nat) {n : Nat} (hn : 0 < n) : firstP W d n < n := by
  have := zeroP_lt W d n
  unfold firstP
  split <;> omega
theorem head_mk (W : List Nat) (d n : Nat) (hn : 0 < n) : headT (mkK W d n) = (mkK W d n).filter in0 := by
  refine head_zero (fun a ha => ?_) ?_ ?_
  · obtain ⟨i, _, rfl⟩ := mkK_mem ha
    unfold adP; dsimp only; omega
  · unfold mkK
    rw [List.pairwise_map]
    refine List.Pairwise.imp (fun {i j} hij => ?_) List.pairwise_lt_range
    unfold adP
    dsimp only
    have : i * d / 8 ≤ j * d / 8 := Nat.div_le_div_right (Nat.mul_le_mul_right _ (Nat.le_of_lt hij))
    omega
  · obtain ⟨m, rfl⟩ : ∃ m, n = m + 1 := ⟨n - 1, by omega⟩
    unfold mkK
    rw [List.range_succ_eq_map, List.map_cons, List.headD_cons]
    simp [adP]
theorem line_perm (t : List Ad) : (lineA t).Perm t := by
  unfold lineA
  exact List.filter_append_perm _ _
theorem sumA_perm {l k : List Ad} (h : l.Perm k) : sumA l = sumA k := (h.map wtA).sum_nat
def lineP (W : List Nat) (d n : Nat) : List Ad := lineA ((mkK W d n).filter in0)
theorem sum_line (W : List Nat) (d n : Nat) : sumA (lineP W d n) = sumP W d n := sumA_perm (line_perm _)
/-- which one the number 0 picks -/
theorem hit_first (W : List Nat) (d n : Nat) (hn : 0 < n) (hW : ∀ i, W.getD i 0 ≤ 65535) (p : Nat) : hit (lineP W d n) 0 0 p = decide (p = firstP W d n) := by
  have hin : ∀ i, in0 (adP d i (W.getD i 0)) = decide (i * d / 8 = 0) := fun i => by unfold in0 adP; dsimp only; rw [Bool.eq_iff_iff]; simp only [decide_eq_true_eq]; omega
  have hno : ∀ i, noneW (adP d i (W.getD i 0)) = decide (W.getD i 0 = 0) := fun i => by unfold noneW; rw [wt_ad d i _ (hW i)]
  have hz : (((mkK W d n).filter in0).filter noneW) = ((List.range n).filter fun i => in0 (adP d i (W.getD i 0)) && decide (W.getD i 0 = 0)).map fun i => adP d i (W.getD i 0) := by
    unfold mkK
    rw [List.filter_map, List.filter_map, List.filter_filter]
    congr 1
    apply List.filter_congr
    intro i _
    simp only [Function.comp, hno]
    rw [Bool.and_comm]
  unfold lineP lineA
  rw [hz]
  cases h : (List.range n).find? fun i => in0 (adP d i (W.getD i 0)) && decide (W.getD i 0 = 0) with
  | some i =>
    have hzp : zeroP W d n = (i : Int) := by unfold zeroP; rw [h]
    have hh := List.head?_filter (p := fun i => in0 (adP d i (W.getD i 0)) && decide (W.getD i 0 = 0)) (l := List.range n)
    rw [h] at hh
    obtain ⟨r, hr⟩ : ∃ r, (List.range n).filter (fun i => in0 (adP d i (W.getD i 0)) && decide (W.getD i 0 = 0)) = i :: r := by
      cases e : (List.range n).filter (fun i => in0 (adP d i (W.getD i 0)) && decide (W.getD i 0 = 0)) with
      | nil => rw [e] at hh; cases hh
      | cons a r => rw [e] at hh; simp only [List.head?_cons, Option.some.injEq] at hh; subst hh; exact ⟨r, rfl⟩
    rw [hr, List.map_cons, List.cons_append, hit_zero]
    have hf : firstP W d n = i := by unfold firstP; rw [hzp]; split <;> omega
    rw [hf, Bool.eq_iff_iff]
    simp only [decide_eq_true_eq]
    show ((i : Int) = (p : Int)) ↔ p = i
    omega
  | none =>
    have hzp : zeroP W d n = -1 := by unfold zeroP; rw [h]
    have hf : firstP W d n = 0 := by unfold firstP; rw [hzp]; rfl
    have hnil : (List.range n).filter (fun i => in0 (adP d i (W.getD i 0)) && decide (W.getD i 0 = 0)) = [] := by
      rw [List.filter_eq_nil_iff]
      intro i hi
      have := List.find?_eq_none.1 h i hi
      exact this
    rw [hnil, List.map_nil, List.nil_append]
    obtain ⟨m, rfl⟩ : ∃ m, n = m + 1 := ⟨n - 1, by omega⟩
    have h0 : ¬ W.getD 0 0 = 0 := fun e => by
      have := List.find?_eq_none.1 h 0 (List.mem_range.2 (by omega))
      rw [hin] at this
      simp only [Nat.zero_mul, e] at this
      simp at this
    obtain ⟨r, hr⟩ : ∃ r, ((mkK W d (m + 1)).filter in0).filter (fun a => !noneW a) = adP d 0 (W.getD 0 0) :: r := by
      unfold mkK
      rw [List.range_succ_eq_map, List.map_cons, List.filter_cons, if_pos (by rw [hin]; simp), List.filter_cons, if_pos (by rw [hno]; simpa using h0)]
      exact ⟨_, rfl⟩
    rw [hr, hit_zero, hf, Bool.eq_iff_iff]
    simp only [decide_eq_true_eq]
    show (((0 : Nat) : Int) = (p : Int)) ↔ p = 0
    omega
/-- how often an address is picked -/
theorem cnt_mk (W : List Nat) (d n : Nat) (hn : 0 < n) (hW : ∀ i, W.getD i 0 ≤ 65535) (p : Nat) (hp : p < n) :
    ((List.range (sumP W d n + 1)).filter fun m => hit (lineP W d n) 0 m p).length = (if p * d / 8 = 0 then W.getD p 0 else 0) + if p = firstP W d n then 1 else 0 := by
  have h := cnt_all (lineP W d n) p
  rw [sum_line, hit_first W d n hn hW] at h
  rw [h, Nat.add_comm]
  congr 1
  · unfold lineP
    rw [wtP_perm (line_perm _)]
    unfold wtP
    have hf : ((mkK W d n).filter in0).filter (fun a => decide (a.po = (p : Int))) = ((List.range n).filter fun i => decide (i * d / 8 = 0) && decide (i = p)).map fun i => adP d i (W.getD i 0) := by
      unfold mkK
      rw [List.filter_map, List.filter_map, List.filter_filter]
      congr 1
      apply List.filter_congr
      intro i _
      simp only [Function.comp]
      rw [Bool.and_comm]
      congr 1
      · unfold in0 adP; dsimp only; rw [Bool.eq_iff_iff]; simp only [decide_eq_true_eq]; omega
      · unfold adP; dsimp only; rw [Bool.eq_iff_iff]; simp only [decide_eq_true_eq]; omega
    rw [hf]
    by_cases h2 : p * d / 8 = 0
    · rw [if_pos h2]
      have e : (List.range n).filter (fun i => decide (i * d / 8 = 0) && decide (i = p)) = [p] := by
        have e1 : (List.range n).filter (fun i => decide (i * d / 8 = 0) && decide (i = p)) = (List.range n).filter (fun i => i == p) := by
          apply List.filter_congr
          intro i _
          by_cases hip : i = p
          · subst hip; simp [h2]
          · simp [hip]
        rw [e1]
        clear e1 hf h
        induction n with
        | zero => omega
        | succ n ih =>
          rw [List.range_succ, List.filter_append]
          by_cases hpn : p = n
          · subst hpn
            have : (List.range p).filter (fun i => i == p) = [] := by
              rw [List.filter_eq_nil_iff]
              intro i hi
              have := List.mem_range.1 hi
              simp; omega
            rw [this]; simp
          · have hnp : (n == p) = false := by rw [beq_eq_false_iff_ne]; exact Ne.symm hpn
            have h3 : [n].filter (fun i => i == p) = [] := by simp [List.filter, hnp]
            rw [h3, List.append_nil]
            exact ih (by omega) (by omega)
      rw [e, List.map_singleton, List.map_singleton, wt_ad d p _ (hW p)]; rfl
    · rw [if_neg h2]
      have e : (List.range n).filter (fun i => decide (i * d / 8 = 0) && decide (i = p)) = [] := by
        rw [List.filter_eq_nil_iff]
        intro i _
        by_cases hip : i = p
        · subst hip; simp [h2]
        · simp [hip]
      rw [e]; rfl
  · by_cases h2 : p = firstP W d n <;> simp [h2]
/-- which one a number picks: one of the list -/
theorem pick_mk (W : List Nat) (d n m : Nat) (hn : 0 < n) (hm : m ≤ sumP W d n) : ∃ i, i < n ∧ pickA (mkK W d n) m = (adP d i (W.getD i 0), true) ∧ pickA (mkK W d n) (m + sumP W d n + 1) = (adP d i (W.getD i 0), true) ∧ ∀ p : Nat, hit (lineP W d n) 0 m p = decide (i = p) := by
  have hl : (mkK W d n).length ≠ 0 := by rw [mkK_len]; omega
  have hs : sumA (lineA (headT (mkK W d n))) = sumP W d n := by rw [head_mk W d n hn]; exact sum_line W d n
  have hne : lineA (headT (mkK W d n)) ≠ [] := by
    intro e
    have h1 := headT_ne hl
    have h2 := (line_perm (headT (mkK W d n))).length_eq
    rw [e] at h2
    exact h1 (List.eq_nil_of_length_eq_zero h2.symm)
  obtain ⟨a, ha, hf⟩ := firstA_some m (lineA (headT (mkK W d n))) 0 hne (by rw [hs]; omega)
  have ham : a ∈ mkK W d n := by
    have := (line_perm _).mem_iff.1 ha
    rw [head_mk W d n hn] at this
    exact (List.mem_filter.1 this).1
  obtain ⟨i, hi, rfl⟩ := mkK_mem ham
  refine ⟨i, hi, ?_, ?_, fun p => ?_⟩
  · unfold pickA
    rw [if_neg hl, hs, Nat.mod_eq_of_lt (by omega), hf]
  · unfold pickA
    rw [if_neg hl, hs, show m + sumP W d n + 1 = m + (sumP W d n + 1) by omega, Nat.add_mod_right, Nat.mod_eq_of_lt (by omega), hf]
  · rw [head_mk W d n hn] at hf
    unfold hit lineP
    rw [hf, Bool.eq_iff_iff]
    simp only [decide_eq_true_eq]
    show ((i : Int) = (p : Int)) ↔ i = p
    omega
end Pk
end Go.Proofs.YtlipmlbijddopaaGreatDoor
set_option linter.unusedVariables false
set_option linter.unusedSimpArgs false
namespace Go.Proofs.YtlipmlbijddopaaGreatDoor
open Go.RowKit
namespace Pk
theorem run_sl_hm3 {P : Program} (W : World) (t e : TypeId) (s : Nat) (ht : P.underlying t = some (.slice e)) (hz : ∀ w, (Go.sizeOf e).run P w = .ok s w) (A : Option Addr) (n cap : Nat) (h : Nat) (h2 : h ≤ cap) : (Instr.slice t (.slice A n cap) none (some (.int .i64 (h : Int))) (some (.int .i64 (h : Int)))).run P W = .ok (.slice A h h) W := by
  have ht' : P.underlying t = some (.slice (P.elem t)) := by simp [Program.elem, ht]
  have he : P.elem t = e := by simp [Program.elem, ht]
  rw [run_slice_hm W t _ _ _ ht' .i64 .i64 _ _ (by omega) (by omega) (by omega), he, hz]
  have := cutA_zero A h
  unfold cutA at this
  simp [Result.andThen, sliced, this]
theorem ad_okP (d i w : Nat) (hd : d ≤ 3) (hi : i ≤ 7) (hw : w ≤ 60) : AdOk (adP d i w) := by
  have : i * d ≤ 21 := Nat.le_trans (Nat.mul_le_mul hi hd) (by decide)
  exact ⟨by simp [adP], by unfold adP; dsimp only; omega, by unfold adP; dsimp only; omega, by unfold adP; dsimp only; omega, by unfold adP; dsimp only; omega, by unfold adP; dsimp only; omega, by unfold adP; dsimp only; omega, by unfold adP; dsimp only; omega⟩
theorem sumP_le (W : List Nat) (d : Nat) (hW : ∀ i, W.getD i 0 ≤ 60) : ∀ k, sumP W d k ≤ 60 * k
  | 0 => by rw [sumP_zero]; omega
  | k + 1 => by
    have h1 := sumP_le W d hW k
    have h2 := hW k
    rw [sumP_succ W d k (by omega)]
    split <;> omega
def cK (W : List Nat) (d n m p : Nat) : Nat := ((List.range m).filter fun i => hit (lineP W d n) 0 i p).length
def cL (W : List Nat) (d n m : Nat) : List Value := (List.range n).map fun p => .int .i64 (cK W d n m p : Int)
theorem cL_len (W : List Nat) (d n m : Nat) : (cL W d n m).length = n := by simp [cL]
theorem cL_get (W : List Nat) (d n m : Nat) {p : Nat} (hp : p < n) : (cL W d n m)[p]? = some (.int .i64 (cK W d n m p : Int)) := by
  unfold cL
  rw [List.getElem?_map, List.getElem?_range hp]; rfl
theorem cL_zero (W : List Nat) (d n : Nat) : cL W d n 0 = List.replicate n (.int .i64 0) := by
  apply List.ext_getElem?
  intro p
  rcases Nat.lt_or_ge p n with h | h
  · rw [cL_get W d n 0 h, List.getElem?_replicate, if_pos h]; rfl
  · rw [List.getElem?_eq_none (by rw [cL_len]; exact h), List.getElem?_eq_none (by simpa using h)]
theorem cK_le (W : List Nat) (d n m p : Nat) : cK W d n m p ≤ m := by
  unfold cK
  refine Nat.le_trans (List.length_filter_le _ _) ?_
  rw [List.length_range]; exact Nat.le_refl _
theorem cK_succ (W : List Nat) (d n m i p : Nat) (h : ∀ p : Nat, hit (lineP W d n) 0 m p = decide (i = p)) : cK W d n (m + 1) p = cK W d n m p + if i = p then 1 else 0 := by
  unfold cK
  rw [List.range_succ, List.filter_append, List.length_append]
  congr 1
  by_cases e : i = p
  · rw [if_pos e, List.filter_cons, if_pos (by rw [h]; simpa using e)]; rfl
  · rw [if_neg e, List.filter_cons, if_neg (by rw [h]; simpa using e)]; rfl
theorem cL_succ (W : List Nat) (d n m i : Nat) (h : ∀ p : Nat, hit (lineP W d n) 0 m p = decide (i = p)) (hi : i < n) : cL W d n (m + 1) = (cL W d n m).set i (.int .i64 ((cK W d n m i : Int) + 1)) := by
  apply List.ext_getElem?
  intro p
  rcases Nat.lt_or_ge p n with hp | hp
  · rw [cL_get W d n (m + 1) hp, cK_succ W d n m i p h, List.getElem?_set]
    by_cases e : i = p
    · subst e
      rw [if_pos rfl, if_pos rfl, if_pos (by rw [cL_len]; exact hi)]; rfl
    · rw [if_neg e, if_neg e, cL_get W d n m hp]; rfl
  · rw [List.getElem?_eq_none (by rw [cL_len]; exact hp), List.getElem?_eq_none (by rw [List.length_set, cL_len]; exact hp)]
end Pk
theorem Tryz.pkInfoInt : (Tryz.prog.info? 3).map (fun i => (i.zero, i.size, i.bytes)) = some (some (.int .i64 0), 1, 8) := by kernel_rfl
theorem make_intsP (n : Nat) (hn : n ≤ 1000000) (W : World) : (Instr.makeSlice 48 (.int .i64 (n : Int)) (.int .i64 (n : Int))).run Tryz.prog W = .ok (.slice (some ⟨W.heap.size, 0, none⟩) n n) (W.alloc (.cells (List.replicate n (Value.int .i64 0)).toArray 3)) := by
  obtain ⟨i0, hi, hz0, hz1, hz2⟩ := info_parts Tryz.pkInfoInt
  have := run_make (P := Tryz.prog) W 48 3 i0 (.int .i64 0) Tryz.underlying48 hi hz0 .i64 .i64 n n (by omega) (by omega) (by rw [hz2]; omega) (by omega)
  rw [this, hz1]
  simp only [Nat.mul_one, Int.toNat_natCast]
  rw [made_one' _ _ rfl]
set_option maxRecDepth 100000 in
set_option maxHeartbeats 4000000 in
theorem srvPicks_any (A0 : Option Addr) (c0 : Nat) (l : List UInt8) (tiers : Nat) (w : World) (_ : True) (h : Rd w w.heap.size A0 l.length (bc l)) (hc : l.length ≤ c0) (ht : tiers < 256) :
    Calls Tryz.prog 7 #[.slice A0 l.length c0, .int .u8 (tiers : Int)] w fun e w' => e = .returned (.bool true) ∧ Below w.heap.size w w' := by
  obtain ⟨i0, hi, hz0, hz1, hz2⟩ := info_parts Tryz.infoByte
  obtain ⟨j0, hj', hy0, hy1, hy2⟩ := info_parts Tryz.infoA
  obtain ⟨n0, hn0⟩ : ∃ n, n = l.length := ⟨_, rfl⟩
  rw [← hn0] at h hc ⊢
  obtain ⟨K, hK⟩ : ∃ K, K = min n0 7 := ⟨_, rfl⟩
  have hmin : min (n0 : Int) 7 = (K : Int) := by omega
  have hK1 : K ≤ n0 := by omega
  have hK7 : K ≤ 7 := by omega
  obtain ⟨L, hL⟩ : ∃ L, L = l.take K ++ [1] := ⟨_, rfl⟩
  obtain ⟨n, hn⟩ : ∃ n, n = K + 1 := ⟨_, rfl⟩
  have hn8 : n ≤ 8 := by omega
  have hn1 : 0 < n := by omega
  have hLl : L.length = n := by rw [hL, List.length_append, List.length_take, hn]; simp; omega
  obtain ⟨W, hW⟩ : ∃ W, W = L.map fun b : UInt8 => b.toNat % 61 := ⟨_, rfl⟩
  have hWb : ∀ i, W.getD i 0 ≤ 60 := fun i => by
    rw [hW, List.getD_eq_getElem?_getD, List.getElem?_map]
    cases L[i]? with
    | none => simp
    | some b => simp; omega
  have hWg : ∀ i (hi : i < L.length), W.getD i 0 = L[i].toNat % 61 := fun i hi => by
    rw [hW, List.getD_eq_getElem?_getD, List.getElem?_map, List.getElem?_eq_getElem hi]; rfl
  obtain ⟨r3, hr3⟩ : ∃ r, r = tiers % 3 := ⟨_, rfl⟩
  obtain ⟨d, hd⟩ : ∃ d, d = 1 + r3 := ⟨_, rfl⟩
  have hd3 : d ≤ 3 := by omega
  have ht1 : (tiers : Int) % 3 = (r3 : Int) := by omega
  have ht2 : (tiers : Int).tmod 3 = (r3 : Int) := by rw [Int.tmod_eq_emod_of_nonneg (by omega)]; exact ht1
  have hd1 : (1 : Int) + (r3 : Int) = (d : Int) := by omega
  have hr32 : r3 ≤ 2 := by omega
  have ksl : ∀ V, (Instr.slice 22 (.slice A0 n0 c0) none (some (.int .i64 (K : Int))) (some (.int .i64 (K : Int)))).run Tryz.prog V = .ok (.slice A0 K K) V := fun V => Pk.run_sl_hm3 V _ 5 1 Tryz.underlying22 (fun w => by kernel_rfl) A0 n0 c0 K (by omega)
  have hbc : bc (l.take K) ++ [.int .u8 1] = bc L := by rw [hL, bc_append]; rfl
  have hA0 : A0 = none → K = 0 := fun e => by
    rcases Nat.eq_zero_or_pos n0 with h0 | h0
    · omega
    · obtain ⟨b, o, e2, _⟩ := h.2 h0
      rw [e] at e2; cases e2
  have HCE := Lib.hid (fun (V : World) (hV : Below w.heap.size w V) => show ∀ b, A0 = some b → ∀ j u, (bc (l.take K))[j]? = some u → V.cell? (b.add j) = some u from fun b e j u hu => by
    have hjk : j < K := by
      rcases Nat.lt_or_ge j K with h1 | h1
      · exact h1
      · rw [List.getElem?_eq_none (by rw [bc_length, List.length_take]; omega)] at hu; cases hu
    obtain ⟨bk, o, e2, hb, hcs⟩ := (h.below hV).2 (by omega)
    rw [e] at e2
    injection e2 with e2
    subst e2
    have e3 : bc l = bc (l.take K) ++ bc (l.drop K) := by rw [← bc_append, List.take_append_drop]
    have := hcs j u (by rw [e3, List.getElem?_append_left (by rw [bc_length, List.length_take]; omega)]; exact hu)
    rw [Addr.add_lit]; exact this)
  have HLL := Lib.hid hLl
  have HWG := Lib.hid hWg
  have HWB := Lib.hid hWb
  have HBC := Lib.hid hbc
  have HA0 := Lib.hid hA0
  have HTK : Hid ((bc (l.take K)).length = K) := Lib.hid (by rw [bc_length, List.length_take]; omega)
  have HNK := Lib.hid (show K + 1 = n from hn.symm)
  have HAW := Lib.hid (sawake_any w)
  have mixed : Tryz.prog.follows .mixedOrders = true := by kernel_rfl
  clear h hc hn0 hK hL hn hLl hW hWb hWg hr3 hd hbc hA0
  go_enter Tryz.func7, Tryz.ntmps7
  go_wp2_with (first
    | (at_builtin; (
       refine wpList_append_grows (w1.alloc (.cells #[.int .u8 1] 5)) rfl _ _ _ rfl 5 i0 (.int .u8 0) 1 1 Tryz.underlying22 hi hz0 hz1 hz2 rfl (by decide) A0 K K (bc (l.take K)) rfl (fun e => ⟨HA0.out e, HA0.out e⟩) (by rw [HTK.out]; omega) (HCE.out _ (HB1.out.alloc HB1.out.size _)) ⟨w1.heap.size, 0, none⟩ 1 1 [.int .u8 1] rfl rfl (fun j u hu => by rw [Addr.add_lit, Nat.zero_add, World.cell?_alloc_mark w1 #[.int .u8 1] _ (0, 0) j]; simpa using hu) (by intro u hu; rw [List.mem_singleton] at hu; subst hu; rfl) (by omega) (by unfold maxLen; omega) (by omega) ?_
       intro v2 w2 ho2 hg2
       have ho2' : OwM w2 w1.heap.size 5 1 v2 (K + 1) (bc L) := OwM.mono (by rw [← HBC.out]; exact ho2) (by simp)
       obtain ⟨A2, c2, rfl, hc2, _, hr2⟩ := ho2'.form
       have hb12 : Below w1.heap.size w1 w2 := (bl_new w1 (.cells #[.int .u8 1] 5)).trans ((Below.refl _ _).grown hg2 (by simp) (fun g hg => by cases hg))
       have HR2 := Lib.hid (show Rd w2 w2.heap.size A2 n (bc L) by rw [Nat.mul_one, HNK.out] at hr2; exact hr2)
       have HB2 := Lib.hid (HB1.out.trans (hb12.mono HB1.out.size))
       rw [HNK.out] at hc2 ⊢
       clear ho2 hg2 ho2' hr2 hb12))
    | (go_at_call 14
       refine HAW.out.mono ?_
       rintro e w1 ⟨rfl, hb1⟩
       have HB1 := Lib.hid hb1
       clear hb1))
  go_loopw [5, 35] (fun v5 vk wr => ∃ (k : Nat) (A5 : Option Addr) (c5 : Nat), k ≤ n ∧ v5 = .slice A5 k c5 ∧ vk = .int .i64 k ∧ Hid (OwM wr w2.heap.size 31 5 (.slice A5 k c5) k (acs (Pk.mkK W d k))) ∧ Hid (Below w2.heap.size w2 wr)) (fun _ vk _ => n - (intOf vk).toNat)
  case atStart => exact ⟨0, none, 0, Nat.zero_le _, rfl, rfl, Lib.hid (OwM.nil _ _ _ _), Lib.hid (Below.refl _ _)⟩
  case round =>
    obtain ⟨k, A5, c5, hk, rfl, rfl, HO, HB⟩ := hrel
    rcases Nat.lt_or_ge k n with hlt | hge
    · have hkl : k < L.length := by rw [HLL.out]; exact hlt
      obtain ⟨b, o, hAe, hb, hcs⟩ := (HR2.out.below HB.out).2 (by omega)
      subst hAe
      have hcell : wr.cell? ⟨b, o + k, none⟩ = some (.int .u8 ((L[k].toNat : Nat) : Int)) := hcs k _ (by unfold bc; rw [List.getElem?_map, List.getElem?_eq_getElem hkl]; rfl)
      have hwk := HWG.out k hkl
      have hw60 := HWB.out k
      obtain ⟨x, hx⟩ : ∃ x, x = L[k].toNat := ⟨_, rfl⟩
      obtain ⟨wk, hwke⟩ : ∃ x, x = W.getD k 0 := ⟨_, rfl⟩
      rw [← hx] at hcell hwk
      rw [← hwke] at hwk hw60
      have hx1 : (x : Int) % 61 = (wk : Int) := by omega
      have hx2 : (x : Int).tmod 61 = (wk : Int) := by rw [Int.tmod_eq_emod_of_nonneg (by omega)]; exact hx1
      obtain ⟨P, hP⟩ : ∃ P, P = k * d := ⟨_, rfl⟩
      have hP1 : (k : Int) * (d : Int) = (P : Int) := by rw [hP]; exact (Int.natCast_mul k d).symm
      have hP21 : P ≤ 24 := by rw [hP]; exact Nat.le_trans (Nat.mul_le_mul (show k ≤ 8 by omega) hd3) (by decide)
      obtain ⟨e8, he8⟩ : ∃ e, e = P / 8 := ⟨_, rfl⟩
      have hq1 : (P : Int) / 8 = (e8 : Int) := by omega
      have hq2 : (P : Int).tdiv 8 = (e8 : Int) := by rw [Int.tdiv_eq_ediv_of_nonneg (by omega)]; exact hq1
      have HAD := Lib.hid (show Pk.adP d k (W.getD k 0) = ⟨[], (k : Int), (e8 : Int), (wk : Int), 0⟩ by rw [← hwke, he8, hP]; rfl)
      have hx256 : x < 256 := by rw [hx]; exact L[k].toNat_lt
      clear hx hwke hwk hP he8 hcs
      go_wp2_with (at_builtin; (
        refine wpList_appM _ rfl _ _ _ _ rfl w2.heap.size 5 31 j0 (.agg zA.cells.toArray) 48 Tryz.underlying27 hj' hy0 hy1 hy2 rfl (by omega) (.slice A5 k c5) k (acs (Pk.mkK W d k)) (HO.out.alloc _) rfl 1 (Ad.cells ⟨[], (k : Int), (e8 : Int), (wk : Int), 0⟩) (srcA Tryz.underlying27 31 5 _ 1 rfl (acells_one _) (by simp)) (by omega) (by have := HB.out.size; simp; omega) ?_
        intro v4 w4 ho4 hg4 hz4
        obtain ⟨A4, c4, rfl, _, _, _⟩ := ho4.form
        have HO4 := Lib.hid ho4
        have HB4 := Lib.hid ((HB.out.alloc HB.out.size _).trans (hg4.below (OwM.lt HO.out) (by have := HB.out.size; simp; omega)))
        clear ho4 hg4))
      go_roundw
      case rel => exact ⟨k + 1, A4, c4, by omega, rfl, by go_num, Lib.hid (by rw [Pk.mkK_succ, HAD.out, acs_snoc]; exact HO4.out), HB4⟩
      case measure => simp [intOf]; omega
    · obtain rfl : n = k := by omega
      obtain ⟨A5', c5', e5, hG⟩ := AsRd.of_own HO.out (Pk.mkK_len W d n) (by omega) (fun x hx => by obtain ⟨i, hi, rfl⟩ := Pk.mkK_mem hx; exact Pk.ad_okP d i _ hd3 (by omega) (HWB.out i))
      cases e5
      have HG := Lib.hid hG
      have HB3 := Lib.hid (HB2.out.trans (HB.out.mono HB2.out.size))
      obtain ⟨W3, hW3⟩ : ∃ x, x = wr := ⟨wr, rfl⟩
      subst hW3
      clear hG HO HCE
      go_wp2_with fail
      go_loopw [8, 9, 58] (fun v8 v9 vk wr => ∃ k : Nat, k ≤ n ∧ vk = .int .i64 k ∧ v8 = .int .i64 (Pk.sumP W d k : Nat) ∧ v9 = .int .i64 (Pk.zeroP W d k) ∧ Hid (Below W3.heap.size W3 wr)) (fun _ _ vk _ => n - (intOf vk).toNat)
      case atStart => exact ⟨0, Nat.zero_le _, rfl, rfl, rfl, Lib.hid (Below.refl _ _)⟩
      case round =>
        obtain ⟨k, hk, rfl, rfl, rfl, HB⟩ := hrel
        rcases Nat.lt_or_ge k n with hlt | hge
        · have hkl : k < (Pk.mkK W d n).length := by rw [Pk.mkK_len]; exact hlt
          obtain ⟨b, o, hAe, hb, hcs⟩ := (HG.out.goes HB.out).base hn1
          subst hAe
          have hf := hcs k hkl
          rw [Pk.mkK_get] at hf
          obtain ⟨e0, e1, e2, e3, e4⟩ := hf.cells
          unfold Pk.adP at e0 e1 e2 e3 e4
          dsimp only at e0 e1 e2 e3 e4
          have hw60 := HWB.out k
          have hsu := Pk.sumP_succ W d k (by omega)
          have hzu := Pk.zeroP_succ W d k
          have hzb := Pk.zeroP_lt W d k
          have hsl := Pk.sumP_le W d HWB.out k
          obtain ⟨wk, hwk⟩ : ∃ x, x = W.getD k 0 := ⟨_, rfl⟩
          obtain ⟨pk, hpk⟩ : ∃ x, x = k * d / 8 := ⟨_, rfl⟩
          obtain ⟨s, hs⟩ : ∃ x, x = Pk.sumP W d k := ⟨_, rfl⟩
          obtain ⟨z, hz⟩ : ∃ x, x = Pk.zeroP W d k := ⟨_, rfl⟩
          have hpk7 : pk ≤ 3 := by
            have : k * d ≤ 24 := Nat.le_trans (Nat.mul_le_mul (show k ≤ 8 by omega) hd3) (by decide)
            omega
          rw [← hwk] at e3 hw60 hsu hzu
          rw [← hpk] at e2 hsu hzu
          rw [← hs] at hsu hsl ⊢
          rw [← hz] at hzu hzb ⊢
          have HSU := Lib.hid hsu
          have HZU := Lib.hid hzu
          have hz1 := hzb.1
          have hz2' := hzb.2
          have hBN := Lib.hid (bl_new wr (.cells #[.string ⟨#[]⟩, .int .i64 (k : Int), .int .i64 (pk : Int), .int .i64 (wk : Int), .int .u32 0] 31))
          have HBW := Lib.hid (HB.out.trans (hBN.out.mono HB.out.size))
          clear hcs hf hwk hpk hs hz hsu hzu hzb
          by_cases hp0 : pk = 0
          · subst hp0
            by_cases hw0 : wk = 0
            · subst hw0
              by_cases hzz : z < 0
              · go_wp2_with fail
                go_roundw
                case rel => exact ⟨k + 1, by omega, by go_num, by rw [HSU.out]; simp, by rw [HZU.out, if_pos ⟨hzz, rfl, rfl⟩], HBW⟩
                case measure => simp [intOf]; omega
              · go_wp2_with fail
                go_roundw
                case rel => exact ⟨k + 1, by omega, by go_num, by rw [HSU.out]; simp, by rw [HZU.out, if_neg (fun h => hzz h.1)], HBW⟩
                case measure => simp [intOf]; omega
            · have hwb : ((wk : Int) == 0) = false := by rw [beq_eq_false_iff_ne]; omega
              go_wp2_with fail
              go_roundw
              case rel => exact ⟨k + 1, by omega, by go_num, by rw [HSU.out]; simp, by rw [HZU.out, if_neg (fun h => hw0 h.2.2)], HBW⟩
              case measure => simp [intOf]; omega
          · have hpb : ((pk : Int) == 0) = false := by rw [beq_eq_false_iff_ne]; omega
            go_wp2_with fail
            go_roundw
            case rel => exact ⟨k + 1, by omega, by go_num, by rw [HSU.out, if_neg hp0]; simp, by rw [HZU.out, if_neg (fun h => hp0 h.2.1)], HBW⟩
            case measure => simp [intOf]; omega
        · obtain rfl : n = k := by omega
          obtain ⟨W4, hW4⟩ : ∃ x, x = wr := ⟨wr, rfl⟩
          subst hW4
          have HB4 := Lib.hid (HB3.out.trans (HB.out.mono HB3.out.size))
          have HG4 := Lib.hid (HG.out.goes HB.out)
          have hsl := Pk.sumP_le W d HWB.out n
          have hzb := Pk.zeroP_lt W d n
          have hFn := Pk.firstP_lt W d hn1
          have hFz : Pk.firstP W d n = if 0 < Pk.zeroP W d n then (Pk.zeroP W d n).toNat else 0 := rfl
          obtain ⟨S, hS⟩ : ∃ s, s = Pk.sumP W d n := ⟨_, rfl⟩
          obtain ⟨z, hz⟩ : ∃ s, s = Pk.zeroP W d n := ⟨_, rfl⟩
          obtain ⟨F, hF⟩ : ∃ s, s = Pk.firstP W d n := ⟨_, rfl⟩
          rw [← hS] at hsl ⊢
          rw [← hz] at hzb hFz ⊢
          rw [← hF] at hFn hFz
          have hz1 := hzb.1
          have hz2' := hzb.2
          have hS480 : S ≤ 480 := by omega
          have HS := Lib.hid hS
          have HF := Lib.hid hF
          have HFZ := Lib.hid hFz
          clear hS hz hF hFz hzb hsl HB HG HB3
          go_upto_if 80 with fail
          go_cut [10] from 79 to 170 (fun v10 wx => v10 = .int .i64 (F : Int) ∧ W4 = wx)
          case first =>
            by_cases hzp : 0 < z
            · have hzF : z = (F : Int) := by rw [HFZ.out, if_pos hzp]; omega
              go_wp2_with fail
              go_meet
              case rel => exact ⟨by rw [hzF], rfl⟩
            · have hzF : F = 0 := by rw [HFZ.out, if_neg hzp]
              go_wp2_with fail
              go_meet
              case rel => exact ⟨by rw [hzF]; rfl, rfl⟩
          case rest =>
            obtain ⟨rfl, rfl⟩ := hcut
            have hmk := make_intsP n (by omega)
            have hvC := Vx.new W4 3 (List.replicate n (Value.int .i64 0))
            rw [← Pk.cL_zero W d n] at hmk hvC
            have HVC := Lib.hid hvC
            have HMK := Lib.hid (bl_new W4 (.cells (Pk.cL W d n 0).toArray 3))
            clear hvC hz1 hz2' HFZ
            go_wp2_with fail
            obtain ⟨gC, hgC⟩ : ∃ g, g = W4.heap.size := ⟨_, rfl⟩
            have HGC := Lib.hid hgC
            rw [← hgC] at HVC ⊢
            clear hgC hmk
            go_loopw [87] (fun vk wr => ∃ m : Nat, m ≤ S + 1 ∧ vk = .int .i64 m ∧ Hid (Vx wr gC 3 (Pk.cL W d n m)) ∧ Hid (Below gC W4 wr)) (fun vk _ => S + 1 - (intOf vk).toNat)
            case atStart => exact ⟨0, Nat.zero_le _, rfl, HVC, Lib.hid (by rw [HGC.out]; exact HMK.out)⟩
            case round =>
              obtain ⟨m, hm, rfl, HV, HB⟩ := hrel
              rcases Nat.lt_or_ge m (S + 1) with hlt | hge
              · obtain ⟨i, hin, hp1, hp2, hhit⟩ := Pk.pick_mk W d n m hn1 (by rw [← HS.out]; omega)
                rw [← HS.out] at hp2
                obtain ⟨wi, hwi⟩ : ∃ x, x = W.getD i 0 := ⟨_, rfl⟩
                obtain ⟨pi, hpi⟩ : ∃ x, x = i * d / 8 := ⟨_, rfl⟩
                have had : Pk.adP d i (W.getD i 0) = ⟨[], (i : Int), (pi : Int), (wi : Int), 0⟩ := by rw [hwi, hpi]; rfl
                rw [had] at hp1 hp2
                have hgC4 : AsRd wr gC A5 c5 n (Pk.mkK W d n) := by rw [HGC.out]; exact HG4.out.below (by rw [← HGC.out]; exact HB.out)
                have hgs : gC ≤ wr.heap.size := Nat.le_of_lt HV.out.lt
                have hgw := hgC4.more hgs
                have KP1 := Lib.hid (show Calls Tryz.prog 23 #[.slice A5 n c5, .int .u32 (m : Int)] wr fun e w' => e = .returned (.tuple #[.agg #[.string ⟨#[]⟩, .int .i64 (i : Int), .int .i64 (pi : Int), .int .i64 (wi : Int), .int .u32 0], .bool true]) ∧ Below wr.heap.size wr w' from by
                  have k := pick_at A5 c5 n m (Pk.mkK W d n) wr hgw (by omega)
                  rw [hp1] at k
                  exact k)
                have KP2 := Lib.hid (fun (V : World) (hV : Below wr.heap.size wr V) => show Calls Tryz.prog 23 #[.slice A5 n c5, .int .u32 ((m : Int) + (S : Int) + 1)] V fun e w' => e = .returned (.tuple #[.agg #[.string ⟨#[]⟩, .int .i64 (i : Int), .int .i64 (pi : Int), .int .i64 (wi : Int), .int .u32 0], .bool true]) ∧ Below V.heap.size V w' from by
                  have k := pick_at A5 c5 n (m + S + 1) (Pk.mkK W d n) V (hgw.goes hV) (by omega)
                  rw [hp2] at k
                  exact k)
                obtain ⟨b, o, hAe, hb, hcs⟩ := hgC4.base hn1
                subst hAe
                have hf := hcs i (by rw [Pk.mkK_len]; exact hin)
                rw [Pk.mkK_get, had] at hf
                have HF5 := Lib.hid hf
                have HHIT := Lib.hid hhit
                clear hp1 hp2 hhit hwi hpi had hcs hf hgw hgC4
                go_upto_region 28 with (first
                  | (go_at_call 23; (
                     refine (KP2.out _ ((HB6.out.alloc HB6.out.size _))).mono ?_
                     rintro e w7 ⟨rfl, hb7⟩
                     have HB7 := Lib.hid ((HB6.out.alloc HB6.out.size (.cells #[.string ⟨#[]⟩, .int .i64 (i : Int), .int .i64 (pi : Int), .int .i64 (wi : Int), .int .u32 0] 31)).trans (hb7.mono (by have := HB6.out.size; simp; omega)))
                     have HX7 := Lib.hid ((Vx.new w6 31 [.string ⟨#[]⟩, .int .i64 (i : Int), .int .i64 (pi : Int), .int .i64 (wi : Int), .int .u32 0]).below hb7 (by simp))
                     clear hb7))
                  | (go_at_call 23; (
                     refine KP1.out.mono ?_
                     rintro e w6 ⟨rfl, hb6⟩
                     have HB6 := Lib.hid hb6
                     clear hb6)))
                have hx17 := Vx.new w7 31 [.string ⟨#[]⟩, .int .i64 (i : Int), .int .i64 (pi : Int), .int .i64 (wi : Int), .int .u32 0]
                have hx15 := HX7.out.alloc (.cells #[.string ⟨#[]⟩, .int .i64 (i : Int), .int .i64 (pi : Int), .int .i64 (wi : Int), .int .u32 0] 31)
                have hb8 := HB7.out.alloc HB7.out.size (.cells #[.string ⟨#[]⟩, .int .i64 (i : Int), .int .i64 (pi : Int), .int .i64 (wi : Int), .int .u32 0] 31)
                have hf8 := HF5.out.below hb8 (Nat.lt_of_lt_of_le hb hgs)
                have hv8 := HV.out.below hb8 HV.out.lt
                obtain ⟨g15, hg15⟩ : ∃ g, g = w6.heap.size := ⟨_, rfl⟩
                obtain ⟨g17, hg17⟩ : ∃ g, g = w7.heap.size := ⟨_, rfl⟩
                rw [← hg15] at hx15 ⊢
                rw [← hg17] at hx17 ⊢
                generalize w7.alloc (.cells #[.string ⟨#[]⟩, .int .i64 (i : Int), .int .i64 (pi : Int), .int .i64 (wi : Int), .int .u32 0] 31) = w8 at hx17 hx15 hb8 hf8 hv8 ⊢
                obtain ⟨a0, a1, a2, a3, a4⟩ := hx15.c5
                obtain ⟨b0, b1, b2, b3, b4⟩ := hx17.c5
                obtain ⟨f0, f1, f2, f3, f4⟩ := hf8.cells
                dsimp only at f0 f1 f2 f3 f4
                have HV8 := Lib.hid hv8
                have HB8 := Lib.hid hb8
                have hi1 : (i : Int) < (n : Int) := by omega
                have hi2 : ¬ (i : Int) < 0 := by omega
                have hi3 : ¬ (n : Int) ≤ (i : Int) := by omega
                have hd1' : decide ((i : Int) < 0) = false := decide_eq_false hi2
                have hd2' : decide ((n : Int) ≤ (i : Int)) = false := decide_eq_false hi3
                clear hx17 hx15 hf8 hv8 hb8 hg15 hg17
                go_quiet (fail)
                have c0 := (HV8.out.drewN nq).cell i
                rw [Pk.cL_get W d n m hin] at c0
                have f0' := (HV8.out.drewN nq).free i
                have hck := Pk.cK_le W d n m i
                have HCS := Lib.hid (Pk.cL_succ W d n m i HHIT.out hin)
                obtain ⟨ck, hcke⟩ : ∃ x, x = Pk.cK W d n m i := ⟨_, rfl⟩
                rw [← hcke] at c0 hck HCS
                clear hcke
                go_wp2_with fail
                go_roundw
                case rel =>
                  refine ⟨m + 1, by omega, by go_num, Lib.hid ?_, Lib.hid ?_⟩
                  · rw [HCS.out]
                    exact (HV8.out.drewN nq).set_ i _
                  · exact (HB.out.trans ((bl_drewN HB8.out nq).mono hgs)).setCell (p := ⟨gC, i, none⟩) (Nat.le_refl _) _
                case measure => simp [intOf]; omega
              · obtain rfl : m = S + 1 := by omega
                have hg9 : AsRd wr gC A5 c5 n (Pk.mkK W d n) := by rw [HGC.out]; exact HG4.out.below (by rw [← HGC.out]; exact HB.out)
                have hgs : gC ≤ wr.heap.size := Nat.le_of_lt HV.out.lt
                obtain ⟨W9, hW9⟩ : ∃ x, x = wr := ⟨wr, rfl⟩
                subst hW9
                have HG9 := Lib.hid (hg9.more hgs)
                have HV9 := HV
                have HB9 := Lib.hid (HB4.out.trans ((show Below W4.heap.size W4 W9 by rw [← HGC.out]; exact HB.out).mono HB4.out.size))
                clear hg9 HB HV hgs HG4 HMK
                go_wp2_with fail
                go_loopw [149] (fun vk wr => ∃ p : Nat, p ≤ n ∧ vk = .int .i64 p ∧ Hid (Below W9.heap.size W9 wr)) (fun vk _ => n - (intOf vk).toNat)
                case atStart => exact ⟨0, Nat.zero_le _, rfl, Lib.hid (Below.refl _ _)⟩
                case round =>
                  obtain ⟨p, hp, rfl, HB⟩ := hrel
                  rcases Nat.lt_or_ge p n with hlt | hge
                  · obtain ⟨b, o, hAe, hb, hcs⟩ := (HG9.out.goes HB.out).base hn1
                    subst hAe
                    have hf := hcs p (by rw [Pk.mkK_len]; exact hlt)
                    rw [Pk.mkK_get] at hf
                    obtain ⟨e0, e1, e2, e3, e4⟩ := hf.cells
                    unfold Pk.adP at e0 e1 e2 e3 e4
                    dsimp only at e0 e1 e2 e3 e4
                    have hcnt : Pk.cK W d n (S + 1) p = (if p * d / 8 = 0 then W.getD p 0 else 0) + if p = F then 1 else 0 := by
                      rw [HS.out, HF.out]
                      exact Pk.cnt_mk W d n hn1 (fun i => by have := HWB.out i; omega) p hlt
                    have hw60 := HWB.out p
                    have hvw := HV9.out.below HB.out HV9.out.lt
                    obtain ⟨wk, hwk⟩ : ∃ x, x = W.getD p 0 := ⟨_, rfl⟩
                    obtain ⟨pk, hpk⟩ : ∃ x, x = p * d / 8 := ⟨_, rfl⟩
                    rw [← hwk] at e3 hw60 hcnt
                    rw [← hpk] at e2 hcnt
                    obtain ⟨ck, hck⟩ : ∃ x, x = Pk.cK W d n (S + 1) p := ⟨_, rfl⟩
                    rw [← hck] at hcnt
                    have k0 : ∀ ob : Obj, (wr.alloc ob).cell? ⟨gC, p, none⟩ = some (.int .i64 (ck : Int)) := fun ob => by
                      have := (hvw.alloc ob).cell p
                      rw [Pk.cL_get W d n (S + 1) hlt, ← hck] at this
                      exact this
                    have HBN := Lib.hid (HB.out.trans ((bl_new wr (.cells #[.string ⟨#[]⟩, .int .i64 (p : Int), .int .i64 (pk : Int), .int .i64 (wk : Int), .int .u32 0] 31)).mono HB.out.size))
                    have HCN := Lib.hid hcnt
                    clear hcs hf hwk hpk hck hcnt hvw
                    by_cases hp0 : pk = 0
                    · subst hp0
                      by_cases hpf : p = F
                      · have hcI : (ck : Int) = (wk : Int) + 1 := by have := HCN.out; rw [if_pos rfl, if_pos hpf] at this; omega
                        have hpfI : (p : Int) = (F : Int) := by omega
                        have hpfB : ((p : Int) == (F : Int)) = true := by rw [beq_iff_eq]; exact hpfI
                        clear hpf hpfI
                        go_wp2_with fail
                        go_roundw
                        case rel => exact ⟨p + 1, by omega, by go_num, HBN⟩
                        case measure => simp [intOf]; omega
                      · have hcI : (ck : Int) = (wk : Int) := by have := HCN.out; rw [if_pos rfl, if_neg hpf] at this; omega
                        have hpfB : ((p : Int) == (F : Int)) = false := by rw [beq_eq_false_iff_ne]; omega
                        clear hpf
                        go_wp2_with fail
                        go_roundw
                        case rel => exact ⟨p + 1, by omega, by go_num, HBN⟩
                        case measure => simp [intOf]; omega
                    · have hpb : ((pk : Int) == 0) = false := by rw [beq_eq_false_iff_ne]; omega
                      by_cases hpf : p = F
                      · have hcI : (ck : Int) = 1 := by have := HCN.out; rw [if_neg hp0, if_pos hpf] at this; omega
                        have hpfB : ((p : Int) == (F : Int)) = true := by rw [beq_iff_eq]; omega
                        clear hpf
                        go_wp2_with fail
                        go_roundw
                        case rel => exact ⟨p + 1, by omega, by go_num, HBN⟩
                        case measure => simp [intOf]; omega
                      · have hcI : (ck : Int) = 0 := by have := HCN.out; rw [if_neg hp0, if_neg hpf] at this; omega
                        have hpfB : ((p : Int) == (F : Int)) = false := by rw [beq_eq_false_iff_ne]; omega
                        clear hpf
                        go_wp2_with fail
                        go_roundw
                        case rel => exact ⟨p + 1, by omega, by go_num, HBN⟩
                        case measure => simp [intOf]; omega
                  · obtain rfl : n = p := by omega
                    go_wp2_with fail
                    go_ret
                    exact ⟨rfl, HB9.out.trans (HB.out.mono HB9.out.size)⟩
end Go.Proofs.YtlipmlbijddopaaGreatDoor
set_option linter.unusedVariables false
namespace Go.Proofs.YtlipmlbijddopaaGreatDoor
open Go.ChangeShapes Go.WideShapes Go.ChangeAt Go.RowKit
set_option maxRecDepth 100000 in
theorem srvPicks_lifted (os : Os) (started : os.Started) (H : Type) (enc : TypeId × Value → H) :
    ReturnsInHanded {} Tryz.checked os 7 .any (fun w args => (Rows.srvPicksSpec.pre enc Tryz.checked.prog Tryz.f7 [] false w args ∧ laidMetH Tryz.checked.prog Rows.srvPicksRow.laid w) ∧ sizedMet enc Tryz.checked.prog Tryz.f7 (OpenSpec.ofChange Rows.srvPicksSpec) false w args) (Rows.srvPicksSpec.post enc Tryz.checked.prog Tryz.f7 false true false false) := by
  refine law_lifted_laid (C := Tryz.checked) (P := Tryz.prog) rfl Tryz.own Tryz.laidOut Tryz.underlying4 started Tryz.func7 rfl (by kernel_rfl) rfl [22, 5] (by rw [Tryz.params7])
    (fun ds h => by
      match ds, h with
      | [d0, d1], _ => rfl) (by kernel_rfl) Rows.srvPicksRow.laid (by kernel_rfl)
    (ChangeSpec.witness_shaped (enc := enc) (C := Tryz.checked) (os := os) (X := fun w _ => laidMetH Tryz.prog Rows.srvPicksRow.laid w) false (World.laidAll Tryz.prog os Rows.srvPicksRow.laid) #[.slice none 0 0, .int .u8 0] 8 (World.laidAll_os _ _ _) (World.shaped_of_ZipB (by kernel_rfl) (by kernel_rfl)) (by kernel_rfl) (by kernel_rfl) (by kernel_rfl)
      (by rw [MakeChecks.laidMetH_plain _ _ _ (by kernel_rfl)]; exact laidMet_laidAll _ (by kernel_rfl) (by kernel_rfl))) ?_
  intro W base args ds p hval hA hL hS
  obtain ⟨v0, v1, d0, d1, p0, p1, rfl, rfl, rfl, h0, h1⟩ := trodAll_two hA.trod
  have hre := hA.reach
  rw [Tryz.params7] at hval
  have w0 : ∀ n ∈ d0.weights Tryz.prog 22, n ≤ reachBytes := fun n hn => by simpa using List.all_eq_true.1 hre n (DataW.weights_mem_each (j := 0) rfl rfl n hn)
  obtain ⟨A0, c0, l0, rfl, hc0, hb0, r0⟩ := open_bs Tryz.underlying22 Tryz.underlying5 Tryz.cellsByte Tryz.bytesByte (hval 0 _ v0 rfl rfl) h0 w0
  obtain ⟨x1, rfl, rfl, rfl, wx1⟩ := open_int Tryz.underlying5 (hval 1 _ v1 rfl rfl) h1
  have hx1 : 0 ≤ x1 ∧ x1 < 256 := by simp [Lit.wf, IntKind.min, IntKind.max, IntKind.signed, IntKind.bits] at wx1; omega
  obtain ⟨n1, rfl⟩ : ∃ n1 : Nat, x1 = (n1 : Int) := ⟨x1.toNat, by omega⟩
  exact srvPicks_any A0 c0 l0 n1 W trivial r0 hc0 (by omega)

theorem srvPicks_holds : Rows.SrvPicksSaid :=
  OpenClaim.holds_of_wide 7 Tryz.f7 rfl rfl rfl rfl rfl rfl rfl ⟨rfl, rfl, rfl, rfl, rfl⟩ rfl rfl rfl rfl rfl (by kernel_rfl) Tryz.func7 (by kernel_rfl)
    (of_decide_eq_true (by kernel_rfl)) (by unfold Func.isWrapper; first | (rw [if_pos (by decide +kernel)]; kernel_rfl) | (rw [if_neg (by decide +kernel)]; exact ⟨rfl, rfl⟩))
    (fun os started H enc _ => srvPicks_lifted os started H enc)

theorem srvPicks_card : Rows.SrvPicksCardSaid :=
  Claim7.holds_tied_plain_at .later [] [.data, .data, .data] true (true, "62a6199dd28d2a080bed368305dcb87b9b8d93dca5598cd0c61d1c0b6c630e34") false
    srvPicks_holds (fun _ h => by cases h) (by kernel_rfl) (fun _ h => by cases h) srvPicks_row_tie rfl ⟨rfl, rfl⟩ (by kernel_rfl) rfl
    (fun f fn hf hfn => by
      obtain rfl : f = 7 := Option.some.inj ((show Tryz.prog.funcNamed "gauger/gaugerlaw18.SrvPicks" = some 7 by kernel_rfl).symm.trans hf) |>.symm
      obtain rfl : fn = Tryz.f7 := (Option.some.inj (Tryz.func7.symm.trans hfn)).symm
      exact ⟨by kernel_rfl, fun j t ht => by
        rw [Tryz.params7] at ht
        have ht2 : t ∈ ([22, 5] : List TypeId) := by simpa using Array.mem_of_getElem? ht
        have hall : ([22, 5] : List TypeId).all (fun t => Tryz.prog.wantsStandIn t == false) = true := by kernel_rfl
        exact beq_iff_eq.1 (List.all_eq_true.1 hall t ht2)⟩)
    (by kernel_rfl)
end Go.Proofs.YtlipmlbijddopaaGreatDoor
