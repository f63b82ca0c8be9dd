/-
  dns: how many questions and records a message has, and whether all are right.
-/
import Derived.Test.YtlipmlbijddopaaDnsR1
set_option linter.unusedVariables false
set_option linter.unusedSimpArgs false
namespace Go.Proofs.Ytlipmlbijddopaa
open Go.RowKit
theorem part_cell (W : World) (cs : Array Value) (k : Nat) (v : Value) (h : cs[k]? = some v) : (part 25 cs k).run Try.prog W = .ok v W := by
  have hagg : (isAgg 25).run Try.prog W = .ok false W := by
    unfold isAgg
    simp [run_underlying Try.underlying25]
  unfold part
  simp [hagg, h]
theorem idx3_0 (W : World) (a b c : Value) : (Instr.index 26 (.agg #[a, b, c]) (.int .i64 0)).run Try.prog W = .ok a W := by
  have hz : (sizeOf 25).run Try.prog W = .ok 1 W := by kernel_rfl
  simp [Instr.index, run_underlying Try.underlying26, asIntOf, hz, part_cell W #[a, b, c] 0 a rfl]
theorem idx3_1 (W : World) (a b c : Value) : (Instr.index 26 (.agg #[a, b, c]) (.int .i64 1)).run Try.prog W = .ok b W := by
  have hz : (sizeOf 25).run Try.prog W = .ok 1 W := by kernel_rfl
  simp [Instr.index, run_underlying Try.underlying26, asIntOf, hz, part_cell W #[a, b, c] 1 b rfl]
theorem idx3_2 (W : World) (a b c : Value) : (Instr.index 26 (.agg #[a, b, c]) (.int .i64 2)).run Try.prog W = .ok c W := by
  have hz : (sizeOf 25).run Try.prog W = .ok 1 W := by kernel_rfl
  simp [Instr.index, run_underlying Try.underlying26, asIntOf, hz, part_cell W #[a, b, c] 2 c rfl]
def MR.numK (x : MR) : Nat → Nat
  | 0 => x.qs.length
  | 1 => x.qs.length + x.r0.length
  | 2 => x.qs.length + x.r0.length + x.r1.length
  | _ => x.qs.length + x.r0.length + x.r1.length + x.r2.length
def MR.okK (x : MR) : Nat → Bool
  | 0 => x.qs.all fun q => rightN q.q.nm
  | 1 => (x.qs.all fun q => rightN q.q.nm) && x.r0.all fun r => rightR r.r
  | 2 => ((x.qs.all fun q => rightN q.q.nm) && x.r0.all fun r => rightR r.r) && x.r1.all fun r => rightR r.r
  | _ => (((x.qs.all fun q => rightN q.q.nm) && x.r0.all fun r => rightR r.r) && x.r1.all fun r => rightR r.r) && x.r2.all fun r => rightR r.r
theorem MR.numK_3 (x : MR) : x.numK 3 = x.m.num := by simp [MR.numK, Ms.num, MR.m]
theorem MR.okK_3 (x : MR) : x.okK 3 = rightM x.m := by simp [MR.okK, rightM, MR.m, List.all_map, Function.comp_def, Bool.and_assoc]
theorem all_not {α : Type} (l : List α) (p : α → Bool) : (!l.any fun x => !p x) = l.all p := by
  induction l with
  | nil => rfl
  | cons a l ih => simp only [List.any_cons, List.all_cons, Bool.not_or, Bool.not_not, ih]
theorem MR.num_le (x : MR) (h0 : x.qs.length ≤ 1000000000000) (h1 : x.r0.length ≤ 1000000000000) (h2 : x.r1.length ≤ 1000000000000) (h3 : x.r2.length ≤ 1000000000000) (k : Nat) : x.numK k ≤ 4000000000000 := by
  unfold MR.numK
  split <;> omega
set_option maxRecDepth 100000 in
set_option maxHeartbeats 400000 in
theorem fits_at (x : MR) (w : World) (h : MRd w w.heap.size x) :
    Calls Try.prog 34 #[.agg x.cells.toArray] w fun e w' => e = .returned (.tuple #[.int .i64 (x.m.num : Int), .bool (rightM x.m)]) ∧ Below w.heap.size w w' := by
  rw [← x.numK_3, ← x.okK_3]
  have hle := x.num_le h.2.2.1.2.2.2.1 h.2.2.2.1.2.2.2.1 h.2.2.2.2.1.2.2.2.1 h.2.2.2.2.2.2.2.2.1
  have l0 := h.2.2.2.1.2.2.2.1
  have l1 := h.2.2.2.2.1.2.2.2.1
  have l2 := h.2.2.2.2.2.2.2.2.1
  have HQ := Lib.hid h.2.2.1
  have H0 := Lib.hid h.2.2.2.1
  have H1 := Lib.hid h.2.2.2.2.1
  have H2 := Lib.hid h.2.2.2.2.2
  clear h
  have hq : x.qs.length = x.numK 0 := rfl
  unfold MR.cells
  go_enter Try.func34, Try.ntmps34
  have hb0 : ∀ o : Obj, Below w.heap.size w (w.alloc o) := fun o => (Below.refl _ w).alloc (Nat.le_refl _) o
  go_wp2_with (go_at_call 59; refine (conQ_at x.qA x.qc _ x.qs _ ((HQ.out.below (hb0 _)).more (by simp))).mono ?_; rintro e w2 ⟨rfl, hb2⟩; obtain ⟨c0, c1, c2, c3, c4, c5⟩ := (Vx.below (Vx.new w 28 x.cells) hb2 (by simp)).c6)
  have hB : Below w.heap.size w w2 := (hb0 _).trans (hb2.mono (by simp))
  clear hb2 hb0 HQ
  go_loopw [4, 5, 7, 17] (fun v4 v5 _ i wr => ∃ k : Nat, k ≤ 3 ∧ v4 = .int .i64 (x.numK k : Int) ∧ v5 = .bool (x.okK k) ∧ i = .int .i64 k ∧ Below w.heap.size w wr) (fun _ _ _ i _ => 3 - (intOf i).toNat)
  case atStart => exact ⟨0, by omega, rfl, congrArg Value.bool (all_not _ _), rfl, hB⟩
  case round =>
    obtain ⟨k, hk, rfl, rfl, rfl, hbel⟩ := hrel
    clear hB
    have hi0 := idx3_0
    have hi1 := idx3_1
    have hi2 := idx3_2
    have hlk := hle k
    rcases (show k = 0 ∨ k = 1 ∨ k = 2 ∨ k = 3 by omega) with rfl | rfl | rfl | rfl
    · have HX := Lib.hid ((H0.out.below hbel).more hbel.size)
      go_wp2_with (go_at_call 62; refine (conR_at _ _ _ x.r0 _ HX.out).mono ?_; rintro e w3 ⟨rfl, hb3⟩)
      · have hok : x.okK 0 = true := by assumption
        go_roundw
        case rel => exact ⟨1, by omega, by simp [MR.numK], by rw [show x.okK 1 = (x.okK 0 && x.r0.all fun r => rightR r.r) from rfl, hok, all_not]; rfl, rfl, hbel.trans (hb3.mono hbel.size)⟩
        case measure => simp [intOf]
      · have hok : x.okK 0 = false := Bool.eq_false_iff.2 (by assumption)
        go_roundw
        case rel => exact ⟨1, by omega, by simp [MR.numK], by rw [show x.okK 1 = (x.okK 0 && x.r0.all fun r => rightR r.r) from rfl, hok]; rfl, rfl, hbel⟩
        case measure => simp [intOf]
    · have HX := Lib.hid ((H1.out.below hbel).more hbel.size)
      go_wp2_with (go_at_call 62; refine (conR_at _ _ _ x.r1 _ HX.out).mono ?_; rintro e w3 ⟨rfl, hb3⟩)
      · have hok : x.okK 1 = true := by assumption
        go_roundw
        case rel => exact ⟨2, by omega, by simp [MR.numK], by rw [show x.okK 2 = (x.okK 1 && x.r1.all fun r => rightR r.r) from rfl, hok, all_not]; rfl, rfl, hbel.trans (hb3.mono hbel.size)⟩
        case measure => simp [intOf]
      · have hok : x.okK 1 = false := Bool.eq_false_iff.2 (by assumption)
        go_roundw
        case rel => exact ⟨2, by omega, by simp [MR.numK], by rw [show x.okK 2 = (x.okK 1 && x.r1.all fun r => rightR r.r) from rfl, hok]; rfl, rfl, hbel⟩
        case measure => simp [intOf]
    · have HX := Lib.hid ((H2.out.below hbel).more hbel.size)
      go_wp2_with (go_at_call 62; refine (conR_at _ _ _ x.r2 _ HX.out).mono ?_; rintro e w3 ⟨rfl, hb3⟩)
      · have hok : x.okK 2 = true := by assumption
        go_roundw
        case rel => exact ⟨3, by omega, by simp [MR.numK], by rw [show x.okK 3 = (x.okK 2 && x.r2.all fun r => rightR r.r) from rfl, hok, all_not]; rfl, rfl, hbel.trans (hb3.mono hbel.size)⟩
        case measure => simp [intOf]
      · have hok : x.okK 2 = false := Bool.eq_false_iff.2 (by assumption)
        go_roundw
        case rel => exact ⟨3, by omega, by simp [MR.numK], by rw [show x.okK 3 = (x.okK 2 && x.r2.all fun r => rightR r.r) from rfl, hok]; rfl, rfl, hbel⟩
        case measure => simp [intOf]
    · go_wp2_with fail
      go_ret2
      exact ⟨rfl, hbel⟩
end Go.Proofs.Ytlipmlbijddopaa
