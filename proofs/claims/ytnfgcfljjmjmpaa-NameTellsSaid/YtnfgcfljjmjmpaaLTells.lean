/-
  Names are checked, measured, written and compared as the reference says, and texts are written and read as it says: NameTells returns true for every input, without any condition.
-/
import Derived.Test.YtnfgcfljjmjmpaaFrame
import Derived.Test.YtnfgcfljjmjmpaaAwake
import Derived.Test.YtnfgcfljjmjmpaaTells
set_option linter.unusedVariables false
namespace Go.Proofs.Ytnfgcfljjmjmpaa
open Go.ChangeShapes Go.WideShapes Go.ChangeAt Go.RowKit
set_option maxRecDepth 100000 in
theorem nameTells_lifted (os : Os) (started : os.Started) (H : Type) (enc : TypeId × Value → H) :
    ReturnsInHanded {} Try.checked os 7 .any (Rows.nameTellsSpec.pre6 enc Try.checked.prog Try.f7 [] false) (Rows.nameTellsSpec.post enc Try.checked.prog Try.f7 false true false false) := by
  refine law_lifted (C := Try.checked) (P := Try.prog) rfl Try.own Try.laidOut Try.underlying4 started Try.func7 rfl (by kernel_rfl) rfl [25, 25, 9] (by rw [Try.params7])
    (fun ds h => by
      match ds, h with
      | [d0, d1, d2], _ => rfl) (by kernel_rfl)
    (ChangeSpec.witness6 (enc := enc) (C := Try.checked) false ⟨#[], #[.slice none 0 0, .slice none 0 0, .string ⟨#[]⟩], []⟩ 8 (by kernel_rfl) (by kernel_rfl) (by kernel_rfl) (by kernel_rfl)) ?_
  intro W base args ds p hval hA
  obtain ⟨v0, v1, v2, d0, d1, d2, p0, p1, p2, rfl, rfl, rfl, h0, h1, h2⟩ := trodAll_three hA.trod
  have hre := hA.reach
  rw [Try.params7] at hval
  have w0 : ∀ n ∈ d0.weights Try.prog 25, n ≤ reachBytes := fun n hn => by simpa using List.all_eq_true.1 hre n (DataW.weights_mem_each (j := 0) rfl rfl n hn)
  obtain ⟨A0, c0, l0, rfl, hc0, hb0, r0, hx0⟩ := open_ss Try.underlying25 Try.underlying9 Try.cellsStr Try.bytesStr (hval 0 _ v0 rfl rfl) h0 w0
  have w1 : ∀ n ∈ d1.weights Try.prog 25, n ≤ reachBytes := fun n hn => by simpa using List.all_eq_true.1 hre n (DataW.weights_mem_each (j := 1) rfl rfl n hn)
  obtain ⟨A1, c1, l1, rfl, hc1, hb1, r1, hx1⟩ := open_ss Try.underlying25 Try.underlying9 Try.cellsStr Try.bytesStr (hval 1 _ v1 rfl rfl) h1 w1
  have w2 : ∀ n ∈ d2.weights Try.prog 9, n ≤ reachBytes := fun n hn => by simpa using List.all_eq_true.1 hre n (DataW.weights_mem_each (j := 2) rfl rfl n hn)
  obtain ⟨l2, rfl, hb2⟩ := open_str1 Try.underlying9 (hval 2 _ v2 rfl rfl) h2 w2
  exact nameTells_any awake_any A0 c0 l0 A1 c1 l1 l2 W r0 hc0 hb0 hx0 r1 hc1 hb1 hx1 hb2

theorem nameTells_holds : Rows.NameTellsSaid :=
  OpenClaim.holds_of_wide 7 Try.f7 rfl rfl rfl rfl rfl rfl rfl ⟨rfl, rfl, rfl, rfl, rfl⟩ rfl rfl rfl rfl rfl (by kernel_rfl) Try.func7 (by kernel_rfl)
    (of_decide_eq_true (by kernel_rfl)) (by unfold Func.isWrapper; first | (rw [if_pos (by decide +kernel)]; kernel_rfl) | (rw [if_neg (by decide +kernel)]; exact ⟨rfl, rfl⟩))
    (fun os started H enc _ => nameTells_lifted os started H enc)
end Go.Proofs.Ytnfgcfljjmjmpaa
