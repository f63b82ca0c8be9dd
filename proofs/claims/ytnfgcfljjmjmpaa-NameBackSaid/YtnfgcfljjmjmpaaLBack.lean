/-
  Names that are appended one after the other are read as they were
-/
import Derived.Test.YtnfgcfljjmjmpaaFrame
import Derived.Test.YtnfgcfljjmjmpaaAwake
import Derived.Test.YtnfgcfljjmjmpaaBack
import Derived.Test.YtnfgcfljjmjmpaaFrame2
set_option linter.unusedVariables false
namespace Go.Proofs.Ytnfgcfljjmjmpaa
open Go.ChangeShapes Go.WideShapes Go.ChangeAt Go.RowKit
set_option maxRecDepth 100000 in
theorem nameBack_lifted (os : Os) (started : os.Started) (H : Type) (enc : TypeId × Value → H) :
    ReturnsInHanded {} Try.checked os 6 .any (Rows.nameBackSpec.pre6 enc Try.checked.prog Try.f6 [] false) (Rows.nameBackSpec.post enc Try.checked.prog Try.f6 false true false false) := by
  refine law_lifted (C := Try.checked) (P := Try.prog) rfl Try.own Try.laidOut Try.underlying4 started Try.func6 rfl (by kernel_rfl) rfl [22, 40] (by rw [Try.params6])
    (fun ds h => by
      match ds, h with
      | [d0, d1], _ => rfl) (by kernel_rfl)
    (ChangeSpec.witness6 (enc := enc) (C := Try.checked) false ⟨#[], #[.slice none 0 0, .slice none 0 0], []⟩ 8 (by kernel_rfl) (by kernel_rfl) (by kernel_rfl) (by kernel_rfl)) ?_
  intro W base args ds p hval hA
  obtain ⟨v0, v1, d0, d1, p0, p1, rfl, rfl, rfl, h0, h1⟩ := trodAll_two hA.trod
  have hre := hA.reach
  rw [Try.params6] at hval
  have w0 : ∀ n ∈ d0.weights Try.prog 22, n ≤ reachBytes := fun n hn => by simpa using List.all_eq_true.1 hre n (DataW.weights_mem_each (j := 0) rfl rfl n hn)
  obtain ⟨A0, c0, l0, rfl, hc0, hb0, r0⟩ := open_bs Try.underlying22 Try.underlying5 Try.cellsByte Try.bytesByte (hval 0 _ v0 rfl rfl) h0 w0
  have w1 : ∀ n ∈ d1.weights Try.prog 40, n ≤ reachBytes := fun n hn => by simpa using List.all_eq_true.1 hre n (DataW.weights_mem_each (j := 1) rfl rfl n hn)
  obtain ⟨A1, c1, l1, rfl, hc1, hb1, r1⟩ := open_rr Try.underlying40 Try.underlying25 Try.underlying9 Try.cellsRow Try.bytesRow Try.cellsStr Try.bytesStr (hval 1 _ v1 rfl rfl) h1 w1
  exact nameBack_any awake_any A0 c0 l0 A1 c1 l1 W r0 hc0 hb0 r1 hc1 (by omega)

theorem nameBack_holds : Rows.NameBackSaid :=
  OpenClaim.holds_of_wide 6 Try.f6 rfl rfl rfl rfl rfl rfl rfl ⟨rfl, rfl, rfl, rfl, rfl⟩ rfl rfl rfl rfl rfl (by kernel_rfl) Try.func6 (by kernel_rfl)
    (of_decide_eq_true (by kernel_rfl)) (by unfold Func.isWrapper; first | (rw [if_pos (by decide +kernel)]; kernel_rfl) | (rw [if_neg (by decide +kernel)]; exact ⟨rfl, rfl⟩))
    (fun os started H enc _ => nameBack_lifted os started H enc)
end Go.Proofs.Ytnfgcfljjmjmpaa
