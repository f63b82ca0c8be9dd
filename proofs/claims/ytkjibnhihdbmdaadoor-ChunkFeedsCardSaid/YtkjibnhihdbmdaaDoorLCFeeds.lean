/-
  A reader that is fed with pieces tells after each of them what the reference reads, keeps no piece, and shares no memory with what it returns: ChunkFeeds returns true for every input; tied to the tables of the packages that the code names; no other condition.
-/
import Derived.Test.YtkjibnhihdbmdaaDoorChunkFr
import Derived.Test.YtkjibnhihdbmdaaDoorChunkFeeds2
import Derived.Test.YtkjibnhihdbmdaaDoorTie
import Derived.Test.YtkjibnhihdbmdaaDoorCards
set_option linter.unusedVariables false
namespace Go.Proofs.YtkjibnhihdbmdaaDoor
open Go.ChangeShapes Go.WideShapes Go.ChangeAt Go.RowKit
set_option maxRecDepth 100000 in
theorem chunkFeeds_lifted (os : Os) (started : os.Started) (H : Type) (enc : TypeId × Value → H) :
    ReturnsInHanded {} Tryd.checked os 7 .any (fun w args => (Rows.chunkFeedsSpec.pre enc Tryd.checked.prog Tryd.f7 [] false w args ∧ laidMetH Tryd.checked.prog Rows.chunkFeedsRow.laid w) ∧ sizedMet enc Tryd.checked.prog Tryd.f7 (OpenSpec.ofChange Rows.chunkFeedsSpec) false w args) (Rows.chunkFeedsSpec.post enc Tryd.checked.prog Tryd.f7 false true false false) := by
  refine law_lifted_laid (C := Tryd.checked) (P := Tryd.prog) rfl Tryd.own Tryd.laidOut Tryd.underlying4 started Tryd.func7 rfl (by kernel_rfl) rfl [39] (by rw [Tryd.params7])
    (fun ds h => by
      match ds, h with
      | [d0], _ => rfl) (by kernel_rfl) Rows.chunkFeedsRow.laid (by kernel_rfl)
    (ChangeSpec.witness_shaped (enc := enc) (C := Tryd.checked) (os := os) (X := fun w _ => laidMetH Tryd.prog Rows.chunkFeedsRow.laid w) false (World.laidAll Tryd.prog os Rows.chunkFeedsRow.laid) #[.slice none 0 0] 8 (World.laidAll_os _ _ _) (World.shaped_of_ZipB (by kernel_rfl) (by kernel_rfl)) (by kernel_rfl) (by kernel_rfl) (by kernel_rfl)
      (by rw [MakeChecks.laidMetH_plain _ _ _ (by kernel_rfl)]; exact laidMet_laidAll _ (by kernel_rfl) (by kernel_rfl))) ?_
  intro W base args ds p hval hA hL hS
  obtain ⟨v0, d0, rfl, rfl, h0⟩ := trodAll_one hA.trod
  have hre := hA.reach
  rw [Tryd.params7] at hval
  have w0 : ∀ n ∈ d0.weights Tryd.prog 39, n ≤ reachBytes := fun n hn => by simpa using List.all_eq_true.1 hre n (DataW.weights_mem_each (j := 0) rfl rfl n hn)
  obtain ⟨A0, c0, l0, rfl, hc0, hb0, r0, hy0⟩ := open_bb Tryd.underlying39 Tryd.underlying22 Tryd.underlying5 Tryd.cellsBs Tryd.bytesBs Tryd.cellsByte Tryd.bytesByte (hval 0 _ v0 rfl rfl) h0 w0
  exact chunkFeeds_any A0 c0 l0 W (envOk_of rfl hL hS) r0 hc0 (by omega)

theorem chunkFeeds_holds : Rows.ChunkFeedsSaid :=
  OpenClaim.holds_of_wide 7 Tryd.f7 rfl rfl rfl rfl rfl rfl rfl ⟨rfl, rfl, rfl, rfl, rfl⟩ rfl rfl rfl rfl rfl (by kernel_rfl) Tryd.func7 (by kernel_rfl)
    (of_decide_eq_true (by kernel_rfl)) (by unfold Func.isWrapper; first | (rw [if_pos (by decide +kernel)]; kernel_rfl) | (rw [if_neg (by decide +kernel)]; exact ⟨rfl, rfl⟩))
    (fun os started H enc _ => chunkFeeds_lifted os started H enc)

theorem chunkFeeds_card : Rows.ChunkFeedsCardSaid :=
  Claim7.holds_tied_plain_at .later [] [.data, .data, .data, .data, .pinned] true (true, "ea098ffc8f5926e175775a274825f490eddfda3c579d958e07273ca7f3c700e8") false
    chunkFeeds_holds (fun _ h => by cases h) (by kernel_rfl) (fun _ h => by cases h) chunkFeeds_row_tie rfl ⟨rfl, rfl⟩ (by kernel_rfl) rfl
    (fun f fn hf hfn => by
      obtain rfl : f = 7 := Option.some.inj ((show Tryd.prog.funcNamed "gauger/gaugerlaw19.ChunkFeeds" = some 7 by kernel_rfl).symm.trans hf) |>.symm
      obtain rfl : fn = Tryd.f7 := (Option.some.inj (Tryd.func7.symm.trans hfn)).symm
      exact ⟨by kernel_rfl, fun j t ht => by
        rw [Tryd.params7] at ht
        have ht2 : t ∈ ([39] : List TypeId) := by simpa using Array.mem_of_getElem? ht
        have hall : ([39] : List TypeId).all (fun t => Tryd.prog.wantsStandIn t == false) = true := by kernel_rfl
        exact beq_iff_eq.1 (List.all_eq_true.1 hall t ht2)⟩)
    (by kernel_rfl)
end Go.Proofs.YtkjibnhihdbmdaaDoor
