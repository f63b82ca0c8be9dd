/-
  The text of a name is read as this name, also with capital letters, different names have different texts, and a string that is read as a name is its text in small letters: NameTexts returns true for every input; tied to the tables of the packages that the code names; no other condition.
-/
import Derived.Test.YtnfgcfljjmjmpaaDoorFrameL
import Derived.Test.YtnfgcfljjmjmpaaDoorTexts
import Derived.Test.YtnfgcfljjmjmpaaDoorTie
import Derived.Test.YtnfgcfljjmjmpaaDoorCards
set_option linter.unusedVariables false
namespace Go.Proofs.YtnfgcfljjmjmpaaDoor
open Go.ChangeShapes Go.WideShapes Go.ChangeAt Go.RowKit
set_option maxRecDepth 100000 in
theorem nameTexts_lifted (os : Os) (started : os.Started) (H : Type) (enc : TypeId × Value → H) :
    ReturnsInHanded {} Tryd.checked os 3 .any (fun w args => (Rows.nameTextsSpec.pre enc Tryd.checked.prog Tryd.f3 [] false w args ∧ laidMetH Tryd.checked.prog Rows.nameTextsRow.laid w) ∧ sizedMet enc Tryd.checked.prog Tryd.f3 (OpenSpec.ofChange Rows.nameTextsSpec) false w args) (Rows.nameTextsSpec.post enc Tryd.checked.prog Tryd.f3 false true false false) := by
  refine law_lifted_laid (C := Tryd.checked) (P := Tryd.prog) rfl Tryd.own Tryd.laidOut Tryd.underlying4 started Tryd.func3 rfl (by kernel_rfl) rfl [22, 22, 9, 5] (by rw [Tryd.params3])
    (fun ds h => by
      match ds, h with
      | [d0, d1, d2, d3], _ => rfl) (by kernel_rfl) Rows.nameTextsRow.laid (by kernel_rfl)
    (ChangeSpec.witness_shaped (enc := enc) (C := Tryd.checked) (os := os) (X := fun w _ => laidMetH Tryd.prog Rows.nameTextsRow.laid w) false (World.laidAll Tryd.prog os Rows.nameTextsRow.laid) #[.slice none 0 0, .slice none 0 0, .string ⟨#[]⟩, .int .u8 0] 8 (World.laidAll_os _ _ _) (World.shaped_of_ZipB (by kernel_rfl) (by kernel_rfl)) (by kernel_rfl) (by kernel_rfl) (by kernel_rfl)
      (by rw [MakeChecks.laidMetH_plain _ _ _ (by kernel_rfl)]; exact laidMet_laidAll _ (by kernel_rfl) (by kernel_rfl))) ?_
  intro W base args ds p hval hA hL hS
  obtain ⟨v0, v1, v2, v3, d0, d1, d2, d3, p0, p1, p2, p3, rfl, rfl, rfl, h0, h1, h2, h3⟩ := trodAll_four hA.trod
  have hre := hA.reach
  rw [Tryd.params3] at hval
  have w0 : ∀ n ∈ d0.weights Tryd.prog 22, n ≤ reachBytes := fun n hn => by simpa using List.all_eq_true.1 hre n (DataW.weights_mem_each (j := 0) rfl rfl n hn)
  obtain ⟨A0, c0, l0, rfl, hc0, hb0, r0, hx0⟩ := open_ss Tryd.underlying22 Tryd.underlying9 Tryd.cellsStr Tryd.bytesStr (hval 0 _ v0 rfl rfl) h0 w0
  have w1 : ∀ n ∈ d1.weights Tryd.prog 22, n ≤ reachBytes := fun n hn => by simpa using List.all_eq_true.1 hre n (DataW.weights_mem_each (j := 1) rfl rfl n hn)
  obtain ⟨A1, c1, l1, rfl, hc1, hb1, r1, hx1⟩ := open_ss Tryd.underlying22 Tryd.underlying9 Tryd.cellsStr Tryd.bytesStr (hval 1 _ v1 rfl rfl) h1 w1
  have w2 : ∀ n ∈ d2.weights Tryd.prog 9, n ≤ reachBytes := fun n hn => by simpa using List.all_eq_true.1 hre n (DataW.weights_mem_each (j := 2) rfl rfl n hn)
  obtain ⟨l2, rfl, hb2⟩ := open_str1 Tryd.underlying9 (hval 2 _ v2 rfl rfl) h2 w2
  obtain ⟨x3, rfl, rfl, rfl, wx3⟩ := open_int Tryd.underlying5 (hval 3 _ v3 rfl rfl) h3
  have hx3 : 0 ≤ x3 ∧ x3 < 256 := by simp [Lit.wf, IntKind.min, IntKind.max, IntKind.signed, IntKind.bits] at wx3; omega
  obtain ⟨n3, rfl⟩ : ∃ n3 : Nat, x3 = (n3 : Int) := ⟨x3.toNat, by omega⟩
  exact nameTexts_any A0 c0 l0 A1 c1 l1 l2 n3 W trivial r0 hc0 hb0 hx0 r1 hc1 hb1 hx1 hb2 (by omega)

theorem nameTexts_holds : Rows.NameTextsSaid :=
  OpenClaim.holds_of_wide 3 Tryd.f3 rfl rfl rfl rfl rfl rfl rfl ⟨rfl, rfl, rfl, rfl, rfl⟩ rfl rfl rfl rfl rfl (by kernel_rfl) Tryd.func3 (by kernel_rfl)
    (of_decide_eq_true (by kernel_rfl)) (by unfold Func.isWrapper; first | (rw [if_pos (by decide +kernel)]; kernel_rfl) | (rw [if_neg (by decide +kernel)]; exact ⟨rfl, rfl⟩))
    (fun os started H enc _ => nameTexts_lifted os started H enc)

theorem nameTexts_card : Rows.NameTextsCardSaid :=
  Claim7.holds_tied_plain_at .later [] [.data, .data, .data, .pinned, .pinned] true (true, "cedcde4a3e623e0cc27390bf294fff180b8090320ad49a922247973829690e92") false
    nameTexts_holds (fun _ h => by cases h) (by kernel_rfl) (fun _ h => by cases h) nameTexts_row_tie rfl ⟨rfl, rfl⟩ (by kernel_rfl) rfl
    (fun f fn hf hfn => by
      obtain rfl : f = 3 := Option.some.inj ((show Tryd.prog.funcNamed "gauger/gaugerlaw16.NameTexts" = some 3 by kernel_rfl).symm.trans hf) |>.symm
      obtain rfl : fn = Tryd.f3 := (Option.some.inj (Tryd.func3.symm.trans hfn)).symm
      exact ⟨by kernel_rfl, fun j t ht => by
        rw [Tryd.params3] at ht
        have ht2 : t ∈ ([22, 22, 9, 5] : List TypeId) := by simpa using Array.mem_of_getElem? ht
        have hall : ([22, 22, 9, 5] : List TypeId).all (fun t => Tryd.prog.wantsStandIn t == false) = true := by kernel_rfl
        exact beq_iff_eq.1 (List.all_eq_true.1 hall t ht2)⟩)
    (by kernel_rfl)
end Go.Proofs.YtnfgcfljjmjmpaaDoor
