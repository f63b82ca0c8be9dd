/-
  what ChunkWrong calls.
-/
import Derived.Test.YtkjibnhihdbmdaaDoorChunkShort
import Derived.Test.YtkjibnhihdbmdaaDoorChunkW
import Derived.Deep.RegionHeld3
import Derived.Deep.DeepCutAuto
import Derived.Lib.SlBytesConst
set_option linter.unusedVariables false
set_option linter.unusedSimpArgs false
namespace Go.Proofs.YtkjibnhihdbmdaaDoor
open Go.RowKit
theorem make_bytes (n : Nat) (hn : n ≤ 1000000) (W : World) : (Instr.makeSlice 22 (.int .i64 (n : Int)) (.int .i64 (n : Int))).run Tryd.prog W = .ok (.slice (some ⟨W.heap.size, 0, none⟩) n n) (W.alloc (.cells (bc (List.replicate n 0)).toArray 5)) := by
  obtain ⟨i0, hi, hz0, hz1, hz2⟩ := info_parts Tryd.clInfoByte
  have := run_make (P := Tryd.prog) W 22 5 i0 (.int .u8 0) Tryd.underlying22 hi hz0 .i64 .i64 n n (by omega) (by omega) (by rw [hz2]; omega) (by omega)
  rw [this, hz1]
  simp only [Nat.mul_one, Int.toNat_natCast]
  rw [made_one _ _ rfl]
  have e : bc (List.replicate n 0) = List.replicate n (Value.int .u8 0) := by simp [bc]
  rw [e]
set_option maxRecDepth 100000 in
theorem suffix_b (A1 A2 : Option Addr) (c1 c2 L1 L2 : Nat) (l m : List UInt8) (r : Bool) (w : World) (hr : decide (l.drop (L1 - L2) = m) = r) (h1' : l.length = L1) (h2' : m.length = L2) (hle : L2 ≤ L1) (hc : L1 ≤ c1) (hbig : L1 ≤ 1000000) (h1 : Rd w w.heap.size A1 L1 (bc l)) (h2 : Rd w w.heap.size A2 L2 (bc m)) :
    Calls Tryd.prog 20 #[.slice A1 L1 c1, .slice A2 L2 c2] w fun e w' => e = .returned (.bool r) ∧ w' = w := by
  obtain ⟨D, hD⟩ : ∃ D, D = L1 - L2 := ⟨_, rfl⟩
  have hDi : (L1 : Int) - (L2 : Int) = (D : Int) := by omega
  have ksl : ∀ W, (Instr.slice 22 (.slice A1 L1 c1) (some (.int .i64 (D : Int))) none none).run Tryd.prog W = .ok (.slice (cutA A1 c1 D) (L1 - D) (c1 - D)) W := fun W => run_sl_l W _ 5 Tryd.underlying22 (fun w => by kernel_rfl) A1 L1 c1 D (by omega)
  have hlen : (l.drop D).length = L1 - D := by rw [List.length_drop]; omega
  have hLD : L1 - D = L2 := by omega
  rw [hLD] at ksl hlen
  have hrc : Rd w w.heap.size (cutA A1 c1 D) (L1 - D) (bc (l.drop D)) := by
    have := h1.cut (k := D) (m := L1) (cap := c1) (by omega) (Nat.le_refl _) hc
    rw [show ((bc l).drop D).take (L1 - D) = bc (l.drop D) by
      rw [List.take_of_length_le (by rw [List.length_drop, bc_length, h1']; exact Nat.le_refl _)]; simp [bc, List.map_drop]] at this
    exact this
  rw [hLD] at hrc
  rw [← hD] at hr
  have HL := Lib.hid hlen
  have HR := Lib.hid hr
  have HM := Lib.hid h2'
  have RP := Lib.hid hrc
  have R2 := Lib.hid h2
  have d1 : decide (L2 ≤ L1) = true := decide_eq_true hle
  clear hlen hr h1' h2' h1 h2 hrc hD hLD
  go_enter Tryd.func20, Tryd.ntmps20
  go_wp2_with (go_at_call 19; refine (eq_b (cutA A1 c1 D) A2 (c1 - D) c2 L2 L2 (l.drop D) m r w HR.out HL.out HM.out RP.out R2.out).mono ?_; rintro e w ⟨rfl, rfl⟩)
  go_ret
  exact ⟨rfl, rfl⟩
end Go.Proofs.YtkjibnhihdbmdaaDoor
