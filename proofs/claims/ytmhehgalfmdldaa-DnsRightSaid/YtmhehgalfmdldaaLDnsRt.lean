/-
  DnsRight returns true for every input, without any condition: what is read of any bytes is a right message, and is read again from its form, if it has one.
-/
import Derived.Test.YtmhehgalfmdldaaFrame
import Derived.Test.YtmhehgalfmdldaaDnsRt
set_option linter.unusedVariables false
namespace Go.Proofs.Ytmhehgalfmdldaa
open Go.ChangeShapes Go.WideShapes Go.ChangeAt Go.RowKit
set_option maxRecDepth 100000 in
theorem dnsRight_lifted (os : Os) (started : os.Started) (H : Type) (enc : TypeId × Value → H) :
    ReturnsInHanded {} Try.checked os 4 .any (Rows.dnsRightSpec.pre6 enc Try.checked.prog Try.f4 [] false) (Rows.dnsRightSpec.post enc Try.checked.prog Try.f4 false true false false) := by
  refine law_lifted (C := Try.checked) (P := Try.prog) rfl Try.own Try.laidOut Try.underlying4 started Try.func4 rfl (by kernel_rfl) rfl [22] (by rw [Try.params4])
    (fun ds h => by
      match ds, h with
      | [d0], _ => rfl) (by kernel_rfl)
    (ChangeSpec.witness6 (enc := enc) (C := Try.checked) false ⟨#[], #[.slice none 0 0], []⟩ 8 (by kernel_rfl) (by kernel_rfl) (by kernel_rfl) (by kernel_rfl)) ?_
  intro W base args ds p hval hA
  obtain ⟨v0, d0, rfl, rfl, h0⟩ := trodAll_one hA.trod
  have hre := hA.reach
  rw [Try.params4] at hval
  have w0 : ∀ n ∈ d0.weights Try.prog 22, n ≤ reachBytes := fun n hn => by simpa using List.all_eq_true.1 hre n (DataW.weights_mem_each (j := 0) rfl rfl n hn)
  obtain ⟨A0, c0, l0, rfl, hc0, hb0, r0⟩ := open_bs Try.underlying22 Try.underlying5 Try.cellsByte Try.bytesByte (hval 0 _ v0 rfl rfl) h0 w0
  exact dnsRight_any A0 c0 l0 W r0 hc0 hb0

theorem dnsRight_holds : Rows.DnsRightSaid :=
  OpenClaim.holds_of_wide 4 Try.f4 rfl rfl rfl rfl rfl rfl rfl ⟨rfl, rfl, rfl, rfl, rfl⟩ rfl rfl rfl rfl rfl (by kernel_rfl) Try.func4 (by kernel_rfl)
    (of_decide_eq_true (by kernel_rfl)) (by unfold Func.isWrapper; first | (rw [if_pos (by decide +kernel)]; kernel_rfl) | (rw [if_neg (by decide +kernel)]; exact ⟨rfl, rfl⟩))
    (fun os started H enc _ => dnsRight_lifted os started H enc)
end Go.Proofs.Ytmhehgalfmdldaa
