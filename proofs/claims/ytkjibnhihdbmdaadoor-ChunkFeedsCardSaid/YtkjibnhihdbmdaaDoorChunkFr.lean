/-
  From a law's contract to its row: what the packages' variables hold, and a row of numbers of 16 bits that came in.
-/
import Derived.Test.YtkjibnhihdbmdaaDoorFrameL
import Derived.Test.YtkjibnhihdbmdaaDoorChunkAwake
import Derived.Test.YtkjibnhihdbmdaaDoorChunkLaw
import Derived.Lib.LaidTab
set_option linter.unusedVariables false
namespace Go.Proofs.YtkjibnhihdbmdaaDoor
open Go.ChangeShapes Go.WideShapes Go.ChangeAt Go.RowKit
def tab64 : List Int := [0, 1, 56, 2, 57, 49, 28, 3, 61, 58, 42, 50, 38, 29, 17, 4, 62, 47, 59, 36, 45, 43, 51, 22, 53, 39, 33, 30, 24, 18, 12, 5, 63, 55, 48, 27, 60, 41, 37, 16, 46, 35, 44, 21, 52, 32, 23, 11, 54, 26, 40, 15, 34, 20, 31, 10, 25, 14, 19, 9, 13, 8, 7, 6]
theorem envOk_of {laid : List (String × DataW Unit)} {x : String × DataW Unit} {rest : List (String × DataW Unit)} {W : World} (he : laid = x :: ("math/bits.deBruijn64tab", Lib.tabData .u8 tab64) :: rest) (hL : laidMet Tryd.prog laid W) (hS : W.ShapedOpen Tryd.prog) : EnvOk W := by
  subst he
  have h1 := Lib.tabIs_of_head (P := Tryd.prog) (g := 5) (t := 138) (e := 5) (n := 64) (by kernel_rfl) (by kernel_rfl) Tryd.underlying138 Tryd.underlying5 (by kernel_rfl) (by kernel_rfl) (laidMet_tail hL)
  have h2 := h1.cell (g := 5) (by kernel_rfl) 15 (by decide)
  obtain ⟨m, hm⟩ := Tryd.laysM143.s1_3 W hS
  exact ⟨h2, m, hm⟩
section
variable {P : Program} {H : Type} {enc : TypeId × Value → H} {W : World}
theorem wf_u16 {z : Int} (h : (Lit.int .u16 z).wf = true) : 0 ≤ z ∧ z < 65536 := by
  simp [Lit.wf, IntKind.min, IntKind.max, IntKind.signed, IntKind.bits] at h
  omega
/-- a slice of numbers of 16 bits that came in -/
theorem open_u16s {base : Nat} {t e : TypeId} {v : Value} {d : DataW H} {ps : List MemPlace} (ht : P.underlying t = some (.slice e)) (he : P.underlying e = some (.int .u16)) (hc : P.cellsOf e = 1) (hby : P.bytesOf e = 2)
    (hval : Value.okWide P W .any base t v) (hd : DataW.Trod enc P W 0 (fun _ => true) true t v d ps) (hre : ∀ n ∈ d.weights P t, n ≤ reachBytes) :
    ∃ (A : Option Addr) (c : Nat) (l : List Nat), v = .slice A l.length c ∧ l.length ≤ c ∧ l.length * 2 ≤ 140737488351232 ∧ Rd W W.heap.size A l.length (hc16 l) ∧ ∀ n ∈ l, n < 65536 := by
  obtain ⟨a1, len, cap, rfl⟩ := okWide_slice ht hval
  obtain ⟨fuel, hf⟩ := hd
  rcases open_ints ht he hc hf with ⟨hcs, hx⟩ | ⟨a, len', cap', zs, hcs, _, hl, hm, hz, hx, hcell, hwz⟩
  · simp [Value.cells] at hcs
    obtain ⟨rfl, rfl, rfl⟩ := hcs
    exact ⟨none, 0, [], rfl, Nat.le_refl _, by simp, Rd.nil _ _ _, fun _ h => by cases h⟩
  · simp [Value.cells] at hcs
    obtain ⟨rfl, rfl, rfl⟩ := hcs
    simp only [if_true] at hz
    simp only [Prod.mk.injEq] at hx
    obtain ⟨rfl, rfl⟩ := hx
    have hl2 : ((zs.take len).map Int.toNat).length = len := by rw [List.length_map, List.length_take, hz, Nat.min_eq_left hl]
    have hw := hre (((lits (H := H) .u16 (zs.take len)).length + (lits (H := H) .u16 (zs.drop len)).length) * P.bytesOf e) (by simp [DataW.weights, ht])
    simp only [lits, List.length_map, List.length_take, List.length_drop, hby, reachBytes, hz] at hw
    refine ⟨some a, cap, (zs.take len).map Int.toNat, by rw [hl2], by rw [hl2]; exact hl, by omega, ?_, fun n hn => ?_⟩
    · rw [hl2]
      refine rd_of_cells _ (by simpa using hl2) fun j u hu => ?_
      unfold hc16 at hu
      rw [List.map_map, List.getElem?_map] at hu
      obtain ⟨z, hz1, rfl⟩ := Option.map_eq_some_iff.1 hu
      have hj : j < len := by
        rcases Nat.lt_or_ge j len with h1 | h1
        · exact h1
        · rw [List.getElem?_eq_none (by rw [List.length_take]; omega)] at hz1; cases hz1
      have hw2 := wf_u16 (hwz z (List.mem_of_mem_take (List.mem_of_getElem? hz1)))
      rw [List.getElem?_take_of_lt hj] at hz1
      rw [hcell j (by omega), List.getD_eq_getElem?_getD, hz1]
      simp; omega
    · obtain ⟨z, hz1, rfl⟩ := List.mem_map.1 hn
      have := wf_u16 (hwz z (List.mem_of_mem_take hz1))
      omega
end
end Go.Proofs.YtkjibnhihdbmdaaDoor
