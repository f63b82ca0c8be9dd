/-
  DnsLists returns true for every input, without any condition: a record more at the end of a message that Made makes lengthens its form by its own bytes, changes nothing before it but a count, and what was read before is read as it was.
-/
import Derived.Test.YtmhehgalfmdldaaFrame
import Derived.Test.YtmhehgalfmdldaaDnsLi
import Derived.Test.YtmhehgalfmdldaaDnsOp
set_option linter.unusedVariables false
namespace Go.Proofs.Ytmhehgalfmdldaa
open Go.ChangeShapes Go.WideShapes Go.ChangeAt Go.RowKit
set_option maxRecDepth 100000 in
theorem dnsLists_lifted (os : Os) (started : os.Started) (H : Type) (enc : TypeId × Value → H) :
    ReturnsInHanded {} Try.checked os 7 .any (Rows.dnsListsSpec.pre6 enc Try.checked.prog Try.f7 [] false) (Rows.dnsListsSpec.post enc Try.checked.prog Try.f7 false true false false) := by
  refine law_lifted (C := Try.checked) (P := Try.prog) rfl Try.own Try.laidOut Try.underlying4 started Try.func7 rfl (by kernel_rfl) rfl [25, 25, 45, 57] (by rw [Try.params7])
    (fun ds h => by
      match ds, h with
      | [d0, d1, d2, d3], _ => rfl) (by kernel_rfl)
    (ChangeSpec.witness6 (enc := enc) (C := Try.checked) false ⟨#[], #[.int .u16 0, .int .u16 0, .slice none 0 0, .agg #[.slice none 0 0, .slice none 0 0, .int .u8 0, .int .u8 0, .int .u16 0, .int .u16 0, .int .u16 0, .int .u32 0, .slice none 0 0]], []⟩ 8 (by kernel_rfl) (by kernel_rfl) (by kernel_rfl) (by kernel_rfl)) ?_
  intro W base args ds p hval hA
  obtain ⟨v0, v1, v2, v3, d0, d1, d2, d3, p0, p1, p2, p3, rfl, rfl, rfl, h0, h1, h2, h3⟩ := trodAll_four hA.trod
  have hre := hA.reach
  rw [Try.params7] at hval
  obtain ⟨x0, rfl, rfl, rfl, wx0⟩ := open_int Try.underlying25 (hval 0 _ v0 rfl rfl) h0
  have hx0 : 0 ≤ x0 ∧ x0 < 65536 := by simp [Lit.wf, IntKind.min, IntKind.max, IntKind.signed, IntKind.bits] at wx0; omega
  obtain ⟨n0, rfl⟩ : ∃ n0 : Nat, x0 = (n0 : Int) := ⟨x0.toNat, by omega⟩
  obtain ⟨x1, rfl, rfl, rfl, wx1⟩ := open_int Try.underlying25 (hval 1 _ v1 rfl rfl) h1
  have hx1 : 0 ≤ x1 ∧ x1 < 65536 := by simp [Lit.wf, IntKind.min, IntKind.max, IntKind.signed, IntKind.bits] at wx1; omega
  obtain ⟨n1, rfl⟩ : ∃ n1 : Nat, x1 = (n1 : Int) := ⟨x1.toNat, by omega⟩
  have w2 : ∀ n ∈ d2.weights Try.prog 45, n ≤ reachBytes := fun n hn => by simpa using List.all_eq_true.1 hre n (DataW.weights_mem_each (j := 2) rfl rfl n hn)
  obtain ⟨A2, c2, l2, rfl, hc2, hb2, r2, hx2⟩ := open_sms (hval 2 _ v2 rfl rfl) h2 w2
  have w3 : ∀ n ∈ d3.weights Try.prog 57, n ≤ reachBytes := fun n hn => by simpa using List.all_eq_true.1 hre n (DataW.weights_mem_each (j := 3) rfl rfl n hn)
  obtain ⟨y3, rfl, hy3⟩ := open_smv (hval 3 _ v3 rfl rfl) h3 w3
  exact dnsLists_any n0 n1 A2 c2 l2 y3 W (by omega) (by omega) r2 hc2 hx2 hy3

theorem dnsLists_holds : Rows.DnsListsSaid :=
  OpenClaim.holds_of_wide 7 Try.f7 rfl rfl rfl rfl rfl rfl rfl ⟨rfl, rfl, rfl, rfl, rfl⟩ rfl rfl rfl rfl rfl (by kernel_rfl) Try.func7 (by kernel_rfl)
    (of_decide_eq_true (by kernel_rfl)) (by unfold Func.isWrapper; first | (rw [if_pos (by decide +kernel)]; kernel_rfl) | (rw [if_neg (by decide +kernel)]; exact ⟨rfl, rfl⟩))
    (fun os started H enc _ => dnsLists_lifted os started H enc)
end Go.Proofs.Ytmhehgalfmdldaa
