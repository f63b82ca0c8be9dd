/-
  The order of names is one, a zone is before all other names under it, and what is between two names under a zone is under it, too: NameOrder returns true for every input; no condition.
-/
import Derived.Test.YtnfgcfljjmjmpaaFrame
import Derived.Test.YtnfgcfljjmjmpaaNOrder
import Derived.Test.YtnfgcfljjmjmpaaRows
set_option linter.unusedVariables false
namespace Go.Proofs.Ytnfgcfljjmjmpaa
open Go.ChangeShapes Go.WideShapes Go.ChangeAt Go.RowKit
set_option maxRecDepth 100000 in
theorem nameOrder_lifted (os : Os) (started : os.Started) (H : Type) (enc : TypeId × Value → H) :
    ReturnsInHanded {} Try.checked os 10 .any (Rows.nameOrderSpec.pre6 enc Try.checked.prog Try.f10 [] false) (Rows.nameOrderSpec.post enc Try.checked.prog Try.f10 false true false false) := by
  refine law_lifted (C := Try.checked) (P := Try.prog) rfl Try.own Try.laidOut Try.underlying4 started Try.func10 rfl (by kernel_rfl) rfl [25, 25, 25, 5] (by rw [Try.params10])
    (fun ds h => by
      match ds, h with
      | [d0, d1, d2, d3], _ => rfl) (by kernel_rfl)
    (ChangeSpec.witness6 (enc := enc) (C := Try.checked) false ⟨#[], #[.slice none 0 0, .slice none 0 0, .slice none 0 0, .int .u8 0], []⟩ 8 (by kernel_rfl) (by kernel_rfl) (by kernel_rfl) (by kernel_rfl)) ?_
  intro W base args ds p hval hA
  obtain ⟨v0, v1, v2, v3, d0, d1, d2, d3, p0, p1, p2, p3, rfl, rfl, rfl, h0, h1, h2, h3⟩ := trodAll_four hA.trod
  have hre := hA.reach
  rw [Try.params10] at hval
  have w0 : ∀ n ∈ d0.weights Try.prog 25, n ≤ reachBytes := fun n hn => by simpa using List.all_eq_true.1 hre n (DataW.weights_mem_each (j := 0) rfl rfl n hn)
  obtain ⟨A0, c0, l0, rfl, hc0, hb0, r0, hx0⟩ := open_ss Try.underlying25 Try.underlying9 Try.cellsStr Try.bytesStr (hval 0 _ v0 rfl rfl) h0 w0
  have w1 : ∀ n ∈ d1.weights Try.prog 25, n ≤ reachBytes := fun n hn => by simpa using List.all_eq_true.1 hre n (DataW.weights_mem_each (j := 1) rfl rfl n hn)
  obtain ⟨A1, c1, l1, rfl, hc1, hb1, r1, hx1⟩ := open_ss Try.underlying25 Try.underlying9 Try.cellsStr Try.bytesStr (hval 1 _ v1 rfl rfl) h1 w1
  have w2 : ∀ n ∈ d2.weights Try.prog 25, n ≤ reachBytes := fun n hn => by simpa using List.all_eq_true.1 hre n (DataW.weights_mem_each (j := 2) rfl rfl n hn)
  obtain ⟨A2, c2, l2, rfl, hc2, hb2, r2, hx2⟩ := open_ss Try.underlying25 Try.underlying9 Try.cellsStr Try.bytesStr (hval 2 _ v2 rfl rfl) h2 w2
  obtain ⟨x3, rfl, rfl, rfl, wx3⟩ := open_int Try.underlying5 (hval 3 _ v3 rfl rfl) h3
  have hx3 : 0 ≤ x3 ∧ x3 < 256 := by simp [Lit.wf, IntKind.min, IntKind.max, IntKind.signed, IntKind.bits] at wx3; omega
  obtain ⟨n3, rfl⟩ : ∃ n3 : Nat, x3 = (n3 : Int) := ⟨x3.toNat, by omega⟩
  exact nameOrder_any A0 c0 l0 A1 c1 l1 A2 c2 l2 n3 W r0 hc0 hb0 hx0 r1 hc1 hb1 hx1 r2 hc2 hb2 hx2 (by omega)

theorem nameOrder_holds : Rows.NameOrderSaid :=
  OpenClaim.holds_of_wide 10 Try.f10 rfl rfl rfl rfl rfl rfl rfl ⟨rfl, rfl, rfl, rfl, rfl⟩ rfl rfl rfl rfl rfl (by kernel_rfl) Try.func10 (by kernel_rfl)
    (of_decide_eq_true (by kernel_rfl)) (by unfold Func.isWrapper; first | (rw [if_pos (by decide +kernel)]; kernel_rfl) | (rw [if_neg (by decide +kernel)]; exact ⟨rfl, rfl⟩))
    (fun os started H enc _ => nameOrder_lifted os started H enc)
end Go.Proofs.Ytnfgcfljjmjmpaa
