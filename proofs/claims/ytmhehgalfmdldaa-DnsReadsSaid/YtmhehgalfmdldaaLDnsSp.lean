/-
  DnsReads returns true for every input, without any condition: messages are read from any bytes as the reference reads them; the bytes are not modified, and the message shares no memory with them.
-/
import Derived.Test.YtmhehgalfmdldaaFrame
import Derived.Test.YtmhehgalfmdldaaDnsSp
set_option linter.unusedVariables false
namespace Go.Proofs.Ytmhehgalfmdldaa
open Go.ChangeShapes Go.WideShapes Go.ChangeAt Go.RowKit
set_option maxRecDepth 100000 in
theorem dnsReads_lifted (os : Os) (started : os.Started) (H : Type) (enc : TypeId × Value → H) :
    ReturnsInHanded {} Try.checked os 3 .any (Rows.dnsReadsSpec.pre6 enc Try.checked.prog Try.f3 [] false) (Rows.dnsReadsSpec.post enc Try.checked.prog Try.f3 false true false false) := by
  refine law_lifted (C := Try.checked) (P := Try.prog) rfl Try.own Try.laidOut Try.underlying4 started Try.func3 rfl (by kernel_rfl) rfl [22] (by rw [Try.params3])
    (fun ds h => by
      match ds, h with
      | [d0], _ => rfl) (by kernel_rfl)
    (ChangeSpec.witness6 (enc := enc) (C := Try.checked) false ⟨#[], #[.slice none 0 0], []⟩ 8 (by kernel_rfl) (by kernel_rfl) (by kernel_rfl) (by kernel_rfl)) ?_
  intro W base args ds p hval hA
  obtain ⟨v0, d0, rfl, rfl, h0⟩ := trodAll_one hA.trod
  have hre := hA.reach
  rw [Try.params3] at hval
  have w0 : ∀ n ∈ d0.weights Try.prog 22, n ≤ reachBytes := fun n hn => by simpa using List.all_eq_true.1 hre n (DataW.weights_mem_each (j := 0) rfl rfl n hn)
  obtain ⟨A0, c0, l0, rfl, hc0, hb0, r0⟩ := open_bs Try.underlying22 Try.underlying5 Try.cellsByte Try.bytesByte (hval 0 _ v0 rfl rfl) h0 w0
  exact dnsReads_any A0 c0 l0 W r0 hc0 hb0

theorem dnsReads_holds : Rows.DnsReadsSaid :=
  OpenClaim.holds_of_wide 3 Try.f3 rfl rfl rfl rfl rfl rfl rfl ⟨rfl, rfl, rfl, rfl, rfl⟩ rfl rfl rfl rfl rfl (by kernel_rfl) Try.func3 (by kernel_rfl)
    (of_decide_eq_true (by kernel_rfl)) (by unfold Func.isWrapper; first | (rw [if_pos (by decide +kernel)]; kernel_rfl) | (rw [if_neg (by decide +kernel)]; exact ⟨rfl, rfl⟩))
    (fun os started H enc _ => dnsReads_lifted os started H enc)
end Go.Proofs.Ytmhehgalfmdldaa
