/-
  LDnsWk
-/
import Derived.Test.YtlipmlbijddopaaFrame
import Derived.Test.YtlipmlbijddopaaKa
import Derived.Test.YtlipmlbijddopaaKb
set_option linter.unusedVariables false
namespace Go.Proofs.Ytlipmlbijddopaa
open Go.ChangeShapes Go.WideShapes Go.ChangeAt Go.RowKit
set_option maxRecDepth 100000 in
theorem dnsWrong_lifted (os : Os) (started : os.Started) (H : Type) (enc : TypeId × Value → H) :
    ReturnsInHanded {} Try.checked os 4 .any (Rows.dnsWrongSpec.pre6 enc Try.checked.prog Try.f4 [] false) (Rows.dnsWrongSpec.post enc Try.checked.prog Try.f4 false true false false) := by
  refine law_lifted (C := Try.checked) (P := Try.prog) rfl Try.own Try.laidOut Try.underlying4 started Try.func4 rfl (by kernel_rfl) rfl [23, 23, 45, 5, 5] (by rw [Try.params4])
    (fun ds h => by
      match ds, h with
      | [d0, d1, d2, d3, d4], _ => rfl) (by kernel_rfl)
    (ChangeSpec.witness6 (enc := enc) (C := Try.checked) false ⟨#[], #[.int .u16 0, .int .u16 0, .slice none 0 0, .int .u8 0, .int .u8 0], []⟩ 8 (by kernel_rfl) (by kernel_rfl) (by kernel_rfl) (by kernel_rfl)) ?_
  intro W base args ds p hval hA
  have hT := hA.trod
  obtain ⟨v0, vs0, d0, ds0, p0, q0, e0, rfl, rfl, h0, hT0⟩ := trodAll_cons hT
  obtain ⟨v1, vs1, d1, ds1, p1, q1, e1, rfl, rfl, h1, hT1⟩ := trodAll_cons hT0
  obtain ⟨v2, vs2, d2, ds2, p2, q2, e2, rfl, rfl, h2, hT2⟩ := trodAll_cons hT1
  obtain ⟨v3, vs3, d3, ds3, p3, q3, e3, rfl, rfl, h3, hT3⟩ := trodAll_cons hT2
  obtain ⟨v4, vs4, d4, ds4, p4, q4, e4, rfl, rfl, h4, hT4⟩ := trodAll_cons hT3
  obtain ⟨e5, rfl, rfl⟩ := trodAll_nil hT4
  obtain ⟨args⟩ := args
  simp only at e0 e1 e2 e3 e4 e5
  subst e5 e4 e3 e2 e1 e0
  have hre := hA.reach
  rw [Try.params4] at hval
  obtain ⟨x0, rfl, rfl, rfl, wx0⟩ := open_int Try.underlying23 (hval 0 _ v0 rfl rfl) h0
  have hx0 : 0 ≤ x0 ∧ x0 < 65536 := by simp [Lit.wf, IntKind.min, IntKind.max, IntKind.signed, IntKind.bits] at wx0; omega
  obtain ⟨n0, rfl⟩ : ∃ n0 : Nat, x0 = (n0 : Int) := ⟨x0.toNat, by omega⟩
  obtain ⟨x1, rfl, rfl, rfl, wx1⟩ := open_int Try.underlying23 (hval 1 _ v1 rfl rfl) h1
  have hx1 : 0 ≤ x1 ∧ x1 < 65536 := by simp [Lit.wf, IntKind.min, IntKind.max, IntKind.signed, IntKind.bits] at wx1; omega
  obtain ⟨n1, rfl⟩ : ∃ n1 : Nat, x1 = (n1 : Int) := ⟨x1.toNat, by omega⟩
  have w2 : ∀ n ∈ d2.weights Try.prog 45, n ≤ reachBytes := fun n hn => by simpa using List.all_eq_true.1 hre n (DataW.weights_mem_each (j := 2) rfl rfl n hn)
  obtain ⟨A2, c2, l2, rfl, hc2, hb2, r2, hx2⟩ := open_sms (hval 2 _ v2 rfl rfl) h2 w2
  obtain ⟨x3, rfl, rfl, rfl, wx3⟩ := open_int Try.underlying5 (hval 3 _ v3 rfl rfl) h3
  have hx3 : 0 ≤ x3 ∧ x3 < 256 := by simp [Lit.wf, IntKind.min, IntKind.max, IntKind.signed, IntKind.bits] at wx3; omega
  obtain ⟨n3, rfl⟩ : ∃ n3 : Nat, x3 = (n3 : Int) := ⟨x3.toNat, by omega⟩
  obtain ⟨x4, rfl, rfl, rfl, wx4⟩ := open_int Try.underlying5 (hval 4 _ v4 rfl rfl) h4
  have hx4 : 0 ≤ x4 ∧ x4 < 256 := by simp [Lit.wf, IntKind.min, IntKind.max, IntKind.signed, IntKind.bits] at wx4; omega
  obtain ⟨n4, rfl⟩ : ∃ n4 : Nat, x4 = (n4 : Int) := ⟨x4.toNat, by omega⟩
  exact dnsWrong_any n0 n1 A2 c2 l2 n3 n4 W (by omega) (by omega) r2 hc2 hx2 (by omega) (by omega)

theorem dnsWrong_holds : Rows.DnsWrongSaid :=
  OpenClaim.holds_of_wide 4 Try.f4 rfl rfl rfl rfl rfl rfl rfl ⟨rfl, rfl, rfl, rfl, rfl⟩ rfl rfl rfl rfl rfl (by kernel_rfl) Try.func4 (by kernel_rfl)
    (of_decide_eq_true (by kernel_rfl)) (by unfold Func.isWrapper; first | (rw [if_pos (by decide +kernel)]; kernel_rfl) | (rw [if_neg (by decide +kernel)]; exact ⟨rfl, rfl⟩))
    (fun os started H enc _ => dnsWrong_lifted os started H enc)
end Go.Proofs.Ytlipmlbijddopaa
