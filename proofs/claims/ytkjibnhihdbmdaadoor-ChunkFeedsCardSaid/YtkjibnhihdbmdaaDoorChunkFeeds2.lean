/-
  ChunkFeeds, under the guard: the law.
-/
import Derived.Test.YtkjibnhihdbmdaaDoorChunkFeeds
set_option linter.unusedVariables false
set_option linter.unusedSimpArgs false
namespace Go.Proofs.YtkjibnhihdbmdaaDoor
open Go.RowKit
theorem flat_le : ∀ (rows : List BRow), rows.any bbP = false → (flatB rows).length ≤ 200 * rows.length
  | [], _ => by simp [flatB]
  | r :: rows, h => by
    rw [List.any_cons, Bool.or_eq_false_iff] at h
    have h1 := flat_le rows h.2
    have h2 : r.l.length ≤ 200 := by
      have := of_decide_eq_false h.1
      omega
    have e : flatB (r :: rows) = r.l ++ flatB rows := by simp [flatB]
    rw [e, List.length_append, List.length_cons]; omega
set_option maxRecDepth 100000 in
set_option maxHeartbeats 1000000 in
theorem chunkFeeds_any (A0 : Option Addr) (c0 : Nat) (rows : List BRow) (w : World) (henv : EnvOk w)
    (r0 : RdB w w.heap.size A0 rows.length rows) (hc0 : rows.length ≤ c0) (hb0 : rows.length ≤ 140737488351232) :
    Calls Tryd.prog 7 #[.slice A0 rows.length c0] w fun e w' => e = .returned (.bool true) ∧ Below w.heap.size w w' := by
  have HE := Lib.hid henv
  have HR0 := Lib.hid r0
  clear henv r0
  by_cases h1 : 30 < rows.length
  · go_enter Tryd.func7, Tryd.ntmps7
    go_wp2_with (go_at_call 13; refine (awake_any w HE.out).mono ?_; rintro e w1 ⟨rfl, hb1⟩; have HB1 := Lib.hid hb1; clear hb1)
    go_ret
    exact ⟨rfl, HB1.out⟩
  · cases ha : rows.any bbP with
    | true =>
      have HA := Lib.hid ha
      clear ha
      go_enter Tryd.func7, Tryd.ntmps7
      go_wp2_with (first
        | (go_at_call 13; refine (awake_any w HE.out).mono ?_; rintro e w1 ⟨rfl, hb1⟩; have HB1 := Lib.hid hb1; clear hb1)
        | (go_at_call 21; refine (bb_contains A0 c0 rows.length rows true w HA.out rfl HR0.out.1 (by omega)).mono ?_; rintro e w ⟨rfl, rfl⟩))
      go_ret
      exact ⟨rfl, HB1.out⟩
    | false =>
      have HA := Lib.hid ha
      have hfl := flat_le rows ha
      have hfl2 : (flatB rows).length ≤ 1000000 := by omega
      have HFl := Lib.hid hfl2
      clear ha hfl hfl2
      go_enter Tryd.func7, Tryd.ntmps7
      go_wp2_with (first
        | (go_at_call 13; refine (awake_any w1 (HE.out.below HB1.out)).mono ?_; rintro e w2 ⟨rfl, hb2⟩; have HB2 := Lib.hid (HB1.out.trans (hb2.mono HB1.out.size)); clear hb2)
        | (go_at_call 23; refine (feeds_at A0 c0 rows.length rows w rfl HR0.out HFl.out (by omega)).mono ?_; rintro e w1 ⟨rfl, hb1⟩; have HB1 := Lib.hid hb1; clear hb1)
        | (go_at_call 21; refine (bb_contains A0 c0 rows.length rows false w HA.out rfl HR0.out.1 (by omega)).mono ?_; rintro e w ⟨rfl, rfl⟩))
      go_ret
      exact ⟨rfl, HB2.out⟩
end Go.Proofs.YtkjibnhihdbmdaaDoor
