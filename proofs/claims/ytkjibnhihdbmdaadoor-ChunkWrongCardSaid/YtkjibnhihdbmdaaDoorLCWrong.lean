/-
  ChunkWrong returns true for every input; tied to the tables of the packages that the code names; no other condition.
-/
import Derived.Test.YtkjibnhihdbmdaaDoorChunkFr
import Derived.Test.YtkjibnhihdbmdaaDoorChunkWrong
import Derived.Test.YtkjibnhihdbmdaaDoorTie
import Derived.Test.YtkjibnhihdbmdaaDoorCards
set_option linter.unusedVariables false
namespace Go.Proofs.YtkjibnhihdbmdaaDoor
open Go.ChangeShapes Go.WideShapes Go.ChangeAt Go.RowKit
set_option maxRecDepth 100000 in
theorem chunkWrong_lifted (os : Os) (started : os.Started) (H : Type) (enc : TypeId × Value → H) :
    ReturnsInHanded {} Tryd.checked os 6 .any (fun w args => (Rows.chunkWrongSpec.pre enc Tryd.checked.prog Tryd.f6 [] false w args ∧ laidMetH Tryd.checked.prog Rows.chunkWrongRow.laid w) ∧ sizedMet enc Tryd.checked.prog Tryd.f6 (OpenSpec.ofChange Rows.chunkWrongSpec) false w args) (Rows.chunkWrongSpec.post enc Tryd.checked.prog Tryd.f6 false true false false) := by
  refine law_lifted_laid (C := Tryd.checked) (P := Tryd.prog) rfl Tryd.own Tryd.laidOut Tryd.underlying4 started Tryd.func6 rfl (by kernel_rfl) rfl [3, 27, 37] (by rw [Tryd.params6])
    (fun ds h => by
      match ds, h with
      | [d0, d1, d2], _ => rfl) (by kernel_rfl) Rows.chunkWrongRow.laid (by kernel_rfl)
    (ChangeSpec.witness_shaped (enc := enc) (C := Tryd.checked) (os := os) (X := fun w _ => laidMetH Tryd.prog Rows.chunkWrongRow.laid w) false (World.laidAll Tryd.prog os Rows.chunkWrongRow.laid) #[.int .i64 0, .slice none 0 0, .int .u16 0] 8 (World.laidAll_os _ _ _) (World.shaped_of_ZipB (by kernel_rfl) (by kernel_rfl)) (by kernel_rfl) (by kernel_rfl) (by kernel_rfl)
      (by rw [MakeChecks.laidMetH_plain _ _ _ (by kernel_rfl)]; exact laidMet_laidAll _ (by kernel_rfl) (by kernel_rfl))) ?_
  intro W base args ds p hval hA hL hS
  obtain ⟨v0, v1, v2, d0, d1, d2, p0, p1, p2, rfl, rfl, rfl, h0, h1, h2⟩ := trodAll_three hA.trod
  have hre := hA.reach
  rw [Tryd.params6] at hval
  obtain ⟨x0, rfl, rfl, rfl, wx0⟩ := open_int Tryd.underlying3 (hval 0 _ v0 rfl rfl) h0
  have hx0 : -9223372036854775808 ≤ x0 ∧ x0 ≤ 9223372036854775807 := by simp [Lit.wf, IntKind.min, IntKind.max, IntKind.signed, IntKind.bits] at wx0; omega
  have w1 : ∀ n ∈ d1.weights Tryd.prog 27, n ≤ reachBytes := fun n hn => by simpa using List.all_eq_true.1 hre n (DataW.weights_mem_each (j := 1) rfl rfl n hn)
  obtain ⟨A1, c1, l1, rfl, hc1, hb1, r1, wz1⟩ := open_u16s Tryd.underlying27 Tryd.underlying37 (by kernel_rfl) (by kernel_rfl) (hval 1 _ v1 rfl rfl) h1 w1
  obtain ⟨x2, rfl, rfl, rfl, wx2⟩ := open_int Tryd.underlying37 (hval 2 _ v2 rfl rfl) h2
  have hx2 : 0 ≤ x2 ∧ x2 < 65536 := by simp [Lit.wf, IntKind.min, IntKind.max, IntKind.signed, IntKind.bits] at wx2; omega
  obtain ⟨n2, rfl⟩ : ∃ n2 : Nat, x2 = (n2 : Int) := ⟨x2.toNat, by omega⟩
  exact chunkWrong_any x0 A1 c1 l1 n2 W (envOk_of rfl hL hS) hx0 r1 hc1 wz1 (by omega)

theorem chunkWrong_holds : Rows.ChunkWrongSaid :=
  OpenClaim.holds_of_wide 6 Tryd.f6 rfl rfl rfl rfl rfl rfl rfl ⟨rfl, rfl, rfl, rfl, rfl⟩ rfl rfl rfl rfl rfl (by kernel_rfl) Tryd.func6 (by kernel_rfl)
    (of_decide_eq_true (by kernel_rfl)) (by unfold Func.isWrapper; first | (rw [if_pos (by decide +kernel)]; kernel_rfl) | (rw [if_neg (by decide +kernel)]; exact ⟨rfl, rfl⟩))
    (fun os started H enc _ => chunkWrong_lifted os started H enc)

theorem chunkWrong_card : Rows.ChunkWrongCardSaid :=
  Claim7.holds_tied_plain_at .later [] [.data, .data, .data, .data, .pinned] true (true, "ea098ffc8f5926e175775a274825f490eddfda3c579d958e07273ca7f3c700e8") false
    chunkWrong_holds (fun _ h => by cases h) (by kernel_rfl) (fun _ h => by cases h) chunkWrong_row_tie rfl ⟨rfl, rfl⟩ (by kernel_rfl) rfl
    (fun f fn hf hfn => by
      obtain rfl : f = 6 := Option.some.inj ((show Tryd.prog.funcNamed "gauger/gaugerlaw19.ChunkWrong" = some 6 by kernel_rfl).symm.trans hf) |>.symm
      obtain rfl : fn = Tryd.f6 := (Option.some.inj (Tryd.func6.symm.trans hfn)).symm
      exact ⟨by kernel_rfl, fun j t ht => by
        rw [Tryd.params6] at ht
        have ht2 : t ∈ ([3, 27, 37] : List TypeId) := by simpa using Array.mem_of_getElem? ht
        have hall : ([3, 27, 37] : List TypeId).all (fun t => Tryd.prog.wantsStandIn t == false) = true := by kernel_rfl
        exact beq_iff_eq.1 (List.all_eq_true.1 hall t ht2)⟩)
    (by kernel_rfl)
end Go.Proofs.YtkjibnhihdbmdaaDoor
