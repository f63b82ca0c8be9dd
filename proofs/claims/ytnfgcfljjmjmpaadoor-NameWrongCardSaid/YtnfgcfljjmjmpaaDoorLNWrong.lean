/-
  Names with a label that is empty, too long, or has a capital letter, and names that are too long, are not written, and offsets that there are not are rejected: NameWrong returns true for every input; tied to the tables of the packages that the code names; no other condition.
-/
import Derived.Test.YtnfgcfljjmjmpaaDoorFrameL
import Derived.Test.YtnfgcfljjmjmpaaDoorWrong
import Derived.Test.YtnfgcfljjmjmpaaDoorTie
import Derived.Test.YtnfgcfljjmjmpaaDoorCards
set_option linter.unusedVariables false
namespace Go.Proofs.YtnfgcfljjmjmpaaDoor
open Go.ChangeShapes Go.WideShapes Go.ChangeAt Go.RowKit
set_option maxRecDepth 100000 in
theorem nameWrong_lifted (os : Os) (started : os.Started) (H : Type) (enc : TypeId × Value → H) :
    ReturnsInHanded {} Tryd.checked os 4 .any (fun w args => (Rows.nameWrongSpec.pre enc Tryd.checked.prog Tryd.f4 [] false w args ∧ laidMetH Tryd.checked.prog Rows.nameWrongRow.laid w) ∧ sizedMet enc Tryd.checked.prog Tryd.f4 (OpenSpec.ofChange Rows.nameWrongSpec) false w args) (Rows.nameWrongSpec.post enc Tryd.checked.prog Tryd.f4 false true false false) := by
  refine law_lifted_laid (C := Tryd.checked) (P := Tryd.prog) rfl Tryd.own Tryd.laidOut Tryd.underlying4 started Tryd.func4 rfl (by kernel_rfl) rfl [22, 5, 5, 28, 3] (by rw [Tryd.params4])
    (fun ds h => by
      match ds, h with
      | [d0, d1, d2, d3, d4], _ => rfl) (by kernel_rfl) Rows.nameWrongRow.laid (by kernel_rfl)
    (ChangeSpec.witness_shaped (enc := enc) (C := Tryd.checked) (os := os) (X := fun w _ => laidMetH Tryd.prog Rows.nameWrongRow.laid w) false (World.laidAll Tryd.prog os Rows.nameWrongRow.laid) #[.slice none 0 0, .int .u8 0, .int .u8 0, .slice none 0 0, .int .i64 0] 8 (World.laidAll_os _ _ _) (World.shaped_of_ZipB (by kernel_rfl) (by kernel_rfl)) (by kernel_rfl) (by kernel_rfl) (by kernel_rfl)
      (by rw [MakeChecks.laidMetH_plain _ _ _ (by kernel_rfl)]; exact laidMet_laidAll _ (by kernel_rfl) (by kernel_rfl))) ?_
  intro W base args ds p hval hA hL hS
  have hT := hA.trod
  obtain ⟨v0, vs0, d0, ds0, p0, q0, e0, rfl, rfl, h0, hT0⟩ := trodAll_cons hT
  obtain ⟨v1, vs1, d1, ds1, p1, q1, e1, rfl, rfl, h1, hT1⟩ := trodAll_cons hT0
  obtain ⟨v2, vs2, d2, ds2, p2, q2, e2, rfl, rfl, h2, hT2⟩ := trodAll_cons hT1
  obtain ⟨v3, vs3, d3, ds3, p3, q3, e3, rfl, rfl, h3, hT3⟩ := trodAll_cons hT2
  obtain ⟨v4, vs4, d4, ds4, p4, q4, e4, rfl, rfl, h4, hT4⟩ := trodAll_cons hT3
  obtain ⟨e5, rfl, rfl⟩ := trodAll_nil hT4
  obtain ⟨args⟩ := args
  simp only at e0 e1 e2 e3 e4 e5
  subst e5 e4 e3 e2 e1 e0
  have hre := hA.reach
  rw [Tryd.params4] at hval
  have w0 : ∀ n ∈ d0.weights Tryd.prog 22, n ≤ reachBytes := fun n hn => by simpa using List.all_eq_true.1 hre n (DataW.weights_mem_each (j := 0) rfl rfl n hn)
  obtain ⟨A0, c0, l0, rfl, hc0, hb0, r0, hx0⟩ := open_ss Tryd.underlying22 Tryd.underlying9 Tryd.cellsStr Tryd.bytesStr (hval 0 _ v0 rfl rfl) h0 w0
  obtain ⟨x1, rfl, rfl, rfl, wx1⟩ := open_int Tryd.underlying5 (hval 1 _ v1 rfl rfl) h1
  have hx1 : 0 ≤ x1 ∧ x1 < 256 := by simp [Lit.wf, IntKind.min, IntKind.max, IntKind.signed, IntKind.bits] at wx1; omega
  obtain ⟨n1, rfl⟩ : ∃ n1 : Nat, x1 = (n1 : Int) := ⟨x1.toNat, by omega⟩
  obtain ⟨x2, rfl, rfl, rfl, wx2⟩ := open_int Tryd.underlying5 (hval 2 _ v2 rfl rfl) h2
  have hx2 : 0 ≤ x2 ∧ x2 < 256 := by simp [Lit.wf, IntKind.min, IntKind.max, IntKind.signed, IntKind.bits] at wx2; omega
  obtain ⟨n2, rfl⟩ : ∃ n2 : Nat, x2 = (n2 : Int) := ⟨x2.toNat, by omega⟩
  have w3 : ∀ n ∈ d3.weights Tryd.prog 28, n ≤ reachBytes := fun n hn => by simpa using List.all_eq_true.1 hre n (DataW.weights_mem_each (j := 3) rfl rfl n hn)
  obtain ⟨A3, c3, l3, rfl, hc3, hb3, r3⟩ := open_bs Tryd.underlying28 Tryd.underlying5 Tryd.cellsByte Tryd.bytesByte (hval 3 _ v3 rfl rfl) h3 w3
  obtain ⟨x4, rfl, rfl, rfl, wx4⟩ := open_int Tryd.underlying3 (hval 4 _ v4 rfl rfl) h4
  have hx4 : -9223372036854775808 ≤ x4 ∧ x4 ≤ 9223372036854775807 := by simp [Lit.wf, IntKind.min, IntKind.max, IntKind.signed, IntKind.bits] at wx4; omega
  exact nameWrong_any A0 c0 l0 n1 n2 A3 c3 l3 x4 W (nvOk_of hS) r0 hc0 hb0 hx0 (by omega) (by omega) r3 hc3 hb3 hx4

theorem nameWrong_holds : Rows.NameWrongSaid :=
  OpenClaim.holds_of_wide 4 Tryd.f4 rfl rfl rfl rfl rfl rfl rfl ⟨rfl, rfl, rfl, rfl, rfl⟩ rfl rfl rfl rfl rfl (by kernel_rfl) Tryd.func4 (by kernel_rfl)
    (of_decide_eq_true (by kernel_rfl)) (by unfold Func.isWrapper; first | (rw [if_pos (by decide +kernel)]; kernel_rfl) | (rw [if_neg (by decide +kernel)]; exact ⟨rfl, rfl⟩))
    (fun os started H enc _ => nameWrong_lifted os started H enc)

theorem nameWrong_card : Rows.NameWrongCardSaid :=
  Claim7.holds_tied_plain_at .later [] [.data, .pinned] true (true, "cedcde4a3e623e0cc27390bf294fff180b8090320ad49a922247973829690e92") false
    nameWrong_holds (fun _ h => by cases h) (by kernel_rfl) (fun _ h => by cases h) nameWrong_row_tie rfl ⟨rfl, rfl⟩ (by kernel_rfl) rfl
    (fun f fn hf hfn => by
      obtain rfl : f = 4 := Option.some.inj ((show Tryd.prog.funcNamed "gauger/gaugerlaw16.NameWrong" = some 4 by kernel_rfl).symm.trans hf) |>.symm
      obtain rfl : fn = Tryd.f4 := (Option.some.inj (Tryd.func4.symm.trans hfn)).symm
      exact ⟨by kernel_rfl, fun j t ht => by
        rw [Tryd.params4] at ht
        have ht2 : t ∈ ([22, 5, 5, 28, 3] : List TypeId) := by simpa using Array.mem_of_getElem? ht
        have hall : ([22, 5, 5, 28, 3] : List TypeId).all (fun t => Tryd.prog.wantsStandIn t == false) = true := by kernel_rfl
        exact beq_iff_eq.1 (List.all_eq_true.1 hall t ht2)⟩)
    (by kernel_rfl)
end Go.Proofs.YtnfgcfljjmjmpaaDoor
