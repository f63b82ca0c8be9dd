/-
  Names are read from any offset of any bytes as the reference reads them: NameReads returns true for every input, without any condition.
-/
import Derived.Test.YtnfgcfljjmjmpaaFrame
import Derived.Test.YtnfgcfljjmjmpaaAwake
import Derived.Test.YtnfgcfljjmjmpaaReads
set_option linter.unusedVariables false
namespace Go.Proofs.Ytnfgcfljjmjmpaa
open Go.ChangeShapes Go.WideShapes Go.ChangeAt Go.RowKit
set_option maxRecDepth 100000 in
theorem nameReads_lifted (os : Os) (started : os.Started) (H : Type) (enc : TypeId × Value → H) :
    ReturnsInHanded {} Try.checked os 5 .any (Rows.nameReadsSpec.pre6 enc Try.checked.prog Try.f5 [] false) (Rows.nameReadsSpec.post enc Try.checked.prog Try.f5 false true false false) := by
  refine law_lifted (C := Try.checked) (P := Try.prog) rfl Try.own Try.laidOut Try.underlying4 started Try.func5 rfl (by kernel_rfl) rfl [22, 3] (by rw [Try.params5])
    (fun ds h => by
      match ds, h with
      | [d0, d1], _ => rfl) (by kernel_rfl)
    (ChangeSpec.witness6 (enc := enc) (C := Try.checked) false ⟨#[], #[.slice none 0 0, .int .i64 0], []⟩ 8 (by kernel_rfl) (by kernel_rfl) (by kernel_rfl) (by kernel_rfl)) ?_
  intro W base args ds p hval hA
  obtain ⟨v0, v1, d0, d1, p0, p1, rfl, rfl, rfl, h0, h1⟩ := trodAll_two hA.trod
  have hre := hA.reach
  rw [Try.params5] at hval
  have w0 : ∀ n ∈ d0.weights Try.prog 22, n ≤ reachBytes := fun n hn => by simpa using List.all_eq_true.1 hre n (DataW.weights_mem_each (j := 0) rfl rfl n hn)
  obtain ⟨A0, c0, l0, rfl, hc0, hb0, r0⟩ := open_bs Try.underlying22 Try.underlying5 Try.cellsByte Try.bytesByte (hval 0 _ v0 rfl rfl) h0 w0
  obtain ⟨x1, rfl, rfl, rfl, wx1⟩ := open_int Try.underlying3 (hval 1 _ v1 rfl rfl) h1
  have hx1 : -9223372036854775808 ≤ x1 ∧ x1 ≤ 9223372036854775807 := by simp [Lit.wf, IntKind.min, IntKind.max, IntKind.signed, IntKind.bits] at wx1; omega
  exact nameReads_any awake_any A0 c0 l0 x1 W r0 hc0 hb0 hx1

theorem nameReads_holds : Rows.NameReadsSaid :=
  OpenClaim.holds_of_wide 5 Try.f5 rfl rfl rfl rfl rfl rfl rfl ⟨rfl, rfl, rfl, rfl, rfl⟩ rfl rfl rfl rfl rfl (by kernel_rfl) Try.func5 (by kernel_rfl)
    (of_decide_eq_true (by kernel_rfl)) (by unfold Func.isWrapper; first | (rw [if_pos (by decide +kernel)]; kernel_rfl) | (rw [if_neg (by decide +kernel)]; exact ⟨rfl, rfl⟩))
    (fun os started H enc _ => nameReads_lifted os started H enc)
end Go.Proofs.Ytnfgcfljjmjmpaa
