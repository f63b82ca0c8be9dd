/-
  DnsWrites returns true for every input, without any condition: messages are checked and written, compared, and asked for answers, as the reference does; they are not modified, and share no memory with answers.
-/
import Derived.Test.YtmhehgalfmdldaaFrame
import Derived.Test.YtmhehgalfmdldaaDnsWr
set_option linter.unusedVariables false
namespace Go.Proofs.Ytmhehgalfmdldaa
open Go.ChangeShapes Go.WideShapes Go.ChangeAt Go.RowKit
set_option maxRecDepth 100000 in
theorem dnsWrites_lifted (os : Os) (started : os.Started) (H : Type) (enc : TypeId × Value → H) :
    ReturnsInHanded {} Try.checked os 8 .any (Rows.dnsWritesSpec.pre6 enc Try.checked.prog Try.f8 [] false) (Rows.dnsWritesSpec.post enc Try.checked.prog Try.f8 false true false false) := by
  refine law_lifted (C := Try.checked) (P := Try.prog) rfl Try.own Try.laidOut Try.underlying4 started Try.func8 rfl (by kernel_rfl) rfl [30, 30, 37, 25] (by rw [Try.params8])
    (fun ds h => by
      match ds, h with
      | [d0, d1, d2, d3], _ => rfl) (by kernel_rfl)
    (ChangeSpec.witness6 (enc := enc) (C := Try.checked) false ⟨#[], #[.agg #[.int .u16 0, .int .u16 0, .slice none 0 0, .slice none 0 0, .slice none 0 0, .slice none 0 0], .agg #[.int .u16 0, .int .u16 0, .slice none 0 0, .slice none 0 0, .slice none 0 0, .slice none 0 0], .slice none 0 0, .int .u16 0], []⟩ 8 (by kernel_rfl) (by kernel_rfl) (by kernel_rfl) (by kernel_rfl)) ?_
  intro W base args ds p hval hA
  obtain ⟨v0, v1, v2, v3, d0, d1, d2, d3, p0, p1, p2, p3, rfl, rfl, rfl, h0, h1, h2, h3⟩ := trodAll_four hA.trod
  have hre := hA.reach
  rw [Try.params8] at hval
  have w0 : ∀ n ∈ d0.weights Try.prog 30, n ≤ reachBytes := fun n hn => by simpa using List.all_eq_true.1 hre n (DataW.weights_mem_each (j := 0) rfl rfl n hn)
  obtain ⟨y0, rfl, hy0⟩ := open_msgv (hval 0 _ v0 rfl rfl) h0 w0
  have w1 : ∀ n ∈ d1.weights Try.prog 30, n ≤ reachBytes := fun n hn => by simpa using List.all_eq_true.1 hre n (DataW.weights_mem_each (j := 1) rfl rfl n hn)
  obtain ⟨y1, rfl, hy1⟩ := open_msgv (hval 1 _ v1 rfl rfl) h1 w1
  have w2 : ∀ n ∈ d2.weights Try.prog 37, n ≤ reachBytes := fun n hn => by simpa using List.all_eq_true.1 hre n (DataW.weights_mem_each (j := 2) rfl rfl n hn)
  obtain ⟨A2, c2, l2, rfl, hc2, hb2, r2, hx2⟩ := open_ss Try.underlying37 Try.underlying9 Try.cellsStr Try.bytesStr (hval 2 _ v2 rfl rfl) h2 w2
  obtain ⟨x3, rfl, rfl, rfl, wx3⟩ := open_int Try.underlying25 (hval 3 _ v3 rfl rfl) h3
  have hx3 : 0 ≤ x3 ∧ x3 < 65536 := by simp [Lit.wf, IntKind.min, IntKind.max, IntKind.signed, IntKind.bits] at wx3; omega
  obtain ⟨n3, rfl⟩ : ∃ n3 : Nat, x3 = (n3 : Int) := ⟨x3.toNat, by omega⟩
  exact dnsWrites_any y0 y1 A2 c2 l2 n3 W hy0 hy1 ⟨r2, hc2, hb2, hx2⟩ (by omega)

theorem dnsWrites_holds : Rows.DnsWritesSaid :=
  OpenClaim.holds_of_wide 8 Try.f8 rfl rfl rfl rfl rfl rfl rfl ⟨rfl, rfl, rfl, rfl, rfl⟩ rfl rfl rfl rfl rfl (by kernel_rfl) Try.func8 (by kernel_rfl)
    (of_decide_eq_true (by kernel_rfl)) (by unfold Func.isWrapper; first | (rw [if_pos (by decide +kernel)]; kernel_rfl) | (rw [if_neg (by decide +kernel)]; exact ⟨rfl, rfl⟩))
    (fun os started H enc _ => dnsWrites_lifted os started H enc)
end Go.Proofs.Ytmhehgalfmdldaa
