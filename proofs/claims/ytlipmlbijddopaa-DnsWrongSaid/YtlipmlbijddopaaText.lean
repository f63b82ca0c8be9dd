import Derived.Test.YtlipmlbijddopaaBuilder
set_option linter.unusedVariables false
namespace Go.Proofs.Ytlipmlbijddopaa
open Go.RowKit

/-- a byte of a label, written -/
def escB (c : UInt8) : List UInt8 := if c.toNat = 46 ∨ c.toNat = 92 then [92, c] else if 32 < c.toNat ∧ c.toNat < 127 then [c] else [92, 48 + c / 100, 48 + c / 10 % 10, 48 + c % 10]
def escL (l : List UInt8) : List UInt8 := l.flatMap escB
/-- labels, written, a dot between two of them -/
def tjoin : List (List UInt8) → List UInt8
  | [] => []
  | l :: n => escL l ++ n.flatMap fun m => 46 :: escL m
def textN (n : List (List UInt8)) : List UInt8 := if n = [] then [46] else tjoin n

theorem escB_length (c : UInt8) : (escB c).length ≤ 4 := by
  unfold escB
  split
  · simp
  · split <;> simp
theorem escL_length (l : List UInt8) : (escL l).length ≤ 4 * l.length := by
  induction l with
  | nil => simp [escL]
  | cons c l ih =>
    have := escB_length c
    simp [escL] at ih ⊢
    omega
theorem escL_take (l : List UInt8) (k : Nat) (h : k < l.length) : escL (l.take (k + 1)) = escL (l.take k) ++ escB l[k] := by
  rw [List.take_succ_eq_append_getElem h]
  unfold escL
  rw [List.flatMap_append]
  simp only [List.flatMap_cons, List.flatMap_nil, List.append_nil]
theorem tjoin_snoc (n : List (List UInt8)) (l : List UInt8) : tjoin (n ++ [l]) = tjoin n ++ (if n = [] then [] else [46]) ++ escL l := by
  cases n with
  | nil => simp [tjoin]
  | cons a n => simp [tjoin]
theorem tjoin_take (n : List (List UInt8)) (k : Nat) (h : k < n.length) : tjoin (n.take (k + 1)) = tjoin (n.take k) ++ (if k = 0 then [] else [46]) ++ escL n[k] := by
  rw [List.take_succ_eq_append_getElem h, tjoin_snoc]
  congr 2
  by_cases hk : k = 0
  · subst hk; simp
  · rw [if_neg hk, if_neg]
    intro e
    have := congrArg List.length e
    rw [List.length_take, List.length_nil] at this
    omega
theorem tjoin_length (n : List (List UInt8)) : (tjoin n).length ≤ 4 * sizeN n := by
  have h : ∀ m : List (List UInt8), (m.flatMap fun l => 46 :: escL l).length + 4 ≤ 4 * sizeN m := by
    intro m
    induction m with
    | nil => simp [sizeN]
    | cons a m ih =>
      have := escL_length a
      simp [sizeN] at ih ⊢
      omega
  cases n with
  | nil => simp [tjoin]
  | cons a n =>
    have h1 := h n
    have h2 := escL_length a
    simp only [tjoin, sizeN, List.length_append]
    omega
theorem lit_rd (w : World) (e : TypeId) (cs : List Value) : Rd (w.alloc (.cells cs.toArray e)) (w.heap.size + 1) (some ⟨w.heap.size, 0, none⟩) cs.length cs := by
  refine ⟨rfl, fun _ => ⟨w.heap.size, 0, rfl, by omega, fun j u hu => ?_⟩⟩
  have := World.cell?_alloc_mark w cs.toArray e (0, 0) j
  rw [Nat.zero_add, this]
  simpa using hu
theorem Own.kp {w w' : World} {g b : Nat} {v v' : Value} {xs : List Value} (h : Own w g xs) (k : Kp w w' b v v') (hg : g < w.heap.size) (h1 : g ≠ b) (h2 : v.ownBlock ≠ some g) : Own w' g xs := fun j u hu => by
  have hb := k.block g hg h1 h2
  exact ⟨(World.cell?_of_block (w := w) (a := ⟨g, j, none⟩) hb).trans (h j u hu).1, (World.frozen?_of_block (w := w) (a := ⟨g, j, none⟩) hb).trans (h j u hu).2⟩

theorem esc_cells (x : UInt8) : [Value.int .u8 92, .int .u8 (48 + (x.toNat : Int) / 100), .int .u8 (48 + (x.toNat : Int) / 10 % 10), .int .u8 (48 + (x.toNat : Int) % 10)] = bc [92, 48 + x / 100, 48 + x / 10 % 10, 48 + x % 10] := by
  have h := UInt8.toNat_lt x
  have e1 : ((48 + x / 100 : UInt8).toNat : Int) = 48 + (x.toNat : Int) / 100 := by simp [UInt8.toNat_add]; omega
  have e2 : ((48 + x / 10 % 10 : UInt8).toNat : Int) = 48 + (x.toNat : Int) / 10 % 10 := by simp [UInt8.toNat_add]; omega
  have e3 : ((48 + x % 10 : UInt8).toNat : Int) = 48 + (x.toNat : Int) % 10 := by simp [UInt8.toNat_add]; omega
  simp only [bc, List.map_cons, List.map_nil, e1, e2, e3]
  rfl
end Go.Proofs.Ytlipmlbijddopaa
