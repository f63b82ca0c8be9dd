/-
  DnsBack returns true for every input, without any condition: the form of a message that Made makes is read as this message, different messages have different forms, and a byte less or more is not read.
-/
import Derived.Test.YtmhehgalfmdldaaFrame
import Derived.Test.YtmhehgalfmdldaaDnsBk
import Derived.Test.YtmhehgalfmdldaaDnsOp
set_option linter.unusedVariables false
namespace Go.Proofs.Ytmhehgalfmdldaa
open Go.ChangeShapes Go.WideShapes Go.ChangeAt Go.RowKit
set_option maxRecDepth 100000 in
theorem dnsBack_lifted (os : Os) (started : os.Started) (H : Type) (enc : TypeId × Value → H) :
    ReturnsInHanded {} Try.checked os 10 .any (Rows.dnsBackSpec.pre6 enc Try.checked.prog Try.f10 [] false) (Rows.dnsBackSpec.post enc Try.checked.prog Try.f10 false true false false) := by
  refine law_lifted (C := Try.checked) (P := Try.prog) rfl Try.own Try.laidOut Try.underlying4 started Try.func10 rfl (by kernel_rfl) rfl [25, 25, 45, 45, 25, 22] (by rw [Try.params10])
    (fun ds h => by
      match ds, h with
      | [d0, d1, d2, d3, d4, d5], _ => rfl) (by kernel_rfl)
    (ChangeSpec.witness6 (enc := enc) (C := Try.checked) false ⟨#[], #[.int .u16 0, .int .u16 0, .slice none 0 0, .slice none 0 0, .int .u16 0, .slice none 0 0], []⟩ 8 (by kernel_rfl) (by kernel_rfl) (by kernel_rfl) (by kernel_rfl)) ?_
  intro W base args ds p hval hA
  have hT := hA.trod
  obtain ⟨v0, vs0, d0, ds0, p0, q0, e0, rfl, rfl, h0, hT0⟩ := trodAll_cons hT
  obtain ⟨v1, vs1, d1, ds1, p1, q1, e1, rfl, rfl, h1, hT1⟩ := trodAll_cons hT0
  obtain ⟨v2, vs2, d2, ds2, p2, q2, e2, rfl, rfl, h2, hT2⟩ := trodAll_cons hT1
  obtain ⟨v3, vs3, d3, ds3, p3, q3, e3, rfl, rfl, h3, hT3⟩ := trodAll_cons hT2
  obtain ⟨v4, vs4, d4, ds4, p4, q4, e4, rfl, rfl, h4, hT4⟩ := trodAll_cons hT3
  obtain ⟨v5, vs5, d5, ds5, p5, q5, e5, rfl, rfl, h5, hT5⟩ := trodAll_cons hT4
  obtain ⟨e6, rfl, rfl⟩ := trodAll_nil hT5
  obtain ⟨args⟩ := args
  simp only at e0 e1 e2 e3 e4 e5 e6
  subst e6 e5 e4 e3 e2 e1 e0
  have hre := hA.reach
  rw [Try.params10] at hval
  obtain ⟨x0, rfl, rfl, rfl, wx0⟩ := open_int Try.underlying25 (hval 0 _ v0 rfl rfl) h0
  have hx0 : 0 ≤ x0 ∧ x0 < 65536 := by simp [Lit.wf, IntKind.min, IntKind.max, IntKind.signed, IntKind.bits] at wx0; omega
  obtain ⟨n0, rfl⟩ : ∃ n0 : Nat, x0 = (n0 : Int) := ⟨x0.toNat, by omega⟩
  obtain ⟨x1, rfl, rfl, rfl, wx1⟩ := open_int Try.underlying25 (hval 1 _ v1 rfl rfl) h1
  have hx1 : 0 ≤ x1 ∧ x1 < 65536 := by simp [Lit.wf, IntKind.min, IntKind.max, IntKind.signed, IntKind.bits] at wx1; omega
  obtain ⟨n1, rfl⟩ : ∃ n1 : Nat, x1 = (n1 : Int) := ⟨x1.toNat, by omega⟩
  have w2 : ∀ n ∈ d2.weights Try.prog 45, n ≤ reachBytes := fun n hn => by simpa using List.all_eq_true.1 hre n (DataW.weights_mem_each (j := 2) rfl rfl n hn)
  obtain ⟨A2, c2, l2, rfl, hc2, hb2, r2, hx2⟩ := open_sms (hval 2 _ v2 rfl rfl) h2 w2
  have w3 : ∀ n ∈ d3.weights Try.prog 45, n ≤ reachBytes := fun n hn => by simpa using List.all_eq_true.1 hre n (DataW.weights_mem_each (j := 3) rfl rfl n hn)
  obtain ⟨A3, c3, l3, rfl, hc3, hb3, r3, hx3⟩ := open_sms (hval 3 _ v3 rfl rfl) h3 w3
  obtain ⟨x4, rfl, rfl, rfl, wx4⟩ := open_int Try.underlying25 (hval 4 _ v4 rfl rfl) h4
  have hx4 : 0 ≤ x4 ∧ x4 < 65536 := by simp [Lit.wf, IntKind.min, IntKind.max, IntKind.signed, IntKind.bits] at wx4; omega
  obtain ⟨n4, rfl⟩ : ∃ n4 : Nat, x4 = (n4 : Int) := ⟨x4.toNat, by omega⟩
  have w5 : ∀ n ∈ d5.weights Try.prog 22, n ≤ reachBytes := fun n hn => by simpa using List.all_eq_true.1 hre n (DataW.weights_mem_each (j := 5) rfl rfl n hn)
  obtain ⟨A5, c5, l5, rfl, hc5, hb5, r5⟩ := open_bs Try.underlying22 Try.underlying5 Try.cellsByte Try.bytesByte (hval 5 _ v5 rfl rfl) h5 w5
  exact dnsBack_any n0 n1 A2 c2 l2 A3 c3 l3 n4 A5 c5 l5 W (by omega) (by omega) r2 hc2 hx2 r3 hc3 hx3 (by omega) r5 hc5

theorem dnsBack_holds : Rows.DnsBackSaid :=
  OpenClaim.holds_of_wide 10 Try.f10 rfl rfl rfl rfl rfl rfl rfl ⟨rfl, rfl, rfl, rfl, rfl⟩ rfl rfl rfl rfl rfl (by kernel_rfl) Try.func10 (by kernel_rfl)
    (of_decide_eq_true (by kernel_rfl)) (by unfold Func.isWrapper; first | (rw [if_pos (by decide +kernel)]; kernel_rfl) | (rw [if_neg (by decide +kernel)]; exact ⟨rfl, rfl⟩))
    (fun os started H enc _ => dnsBack_lifted os started H enc)
end Go.Proofs.Ytmhehgalfmdldaa
