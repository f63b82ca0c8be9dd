/-
  Strings as lists of bytes: index, cut, joined.
-/
import Derived.Test.YtlipmlbijddopaaSmall
set_option linter.unusedVariables false
namespace Go.Proofs.Ytlipmlbijddopaa
open Go.RowKit
theorem catStr (a b : List UInt8) : (⟨a.toArray⟩ : ByteArray) ++ (⟨b.toArray⟩ : ByteArray) = ⟨(a ++ b).toArray⟩ := by
  apply ByteArray.ext
  simp
theorem subU8 (y : UInt8) : IntKind.u8.wrap ((y.toNat : Int) - 48) = ((y - 48).toNat : Int) := by
  have := UInt8.toNat_lt y
  rw [IntKind.wrap_u8', UInt8.toNat_sub]
  simp; omega
theorem addStr (W : World) (a b : List UInt8) (h : a.length + b.length ≤ 140737488355328) : (binOp .add 9 (.string ⟨a.toArray⟩) (.string ⟨b.toArray⟩)).run Try.prog W = .ok (.string ⟨(a ++ b).toArray⟩) W := by
  rw [binOp_string_add]
  have : (⟨a.toArray⟩ : ByteArray) ++ (⟨b.toArray⟩ : ByteArray) = ⟨(a ++ b).toArray⟩ := by
    apply ByteArray.ext
    simp
  have h1 : ByteArray.size ⟨a.toArray⟩ = a.length := rfl
  have h2 : ByteArray.size ⟨b.toArray⟩ = b.length := rfl
  simp [Op.stringOp, this, h1, h2]
  omega
theorem idxStr (W : World) (s : List UInt8) (i : Nat) (x : UInt8) (h : s[i]? = some x) : (Instr.index 9 (.string ⟨s.toArray⟩) (.int .i64 (i : Int))).run Try.prog W = .ok (.int .u8 (x.toNat : Int)) W := by
  obtain ⟨hi, rfl⟩ := List.getElem?_eq_some_iff.1 h
  rw [run_index_string W 9 ⟨s.toArray⟩ .i64 i Try.underlying9]
  have hz : ByteArray.size ⟨s.toArray⟩ = s.length := rfl
  rw [dif_pos ⟨by omega, by rw [hz]; omega⟩]
  rfl
theorem cutStr (W : World) (s : List UInt8) (i : Nat) (x : UInt8) (h : s[i]? = some x) (a b : Int) (ha : a = (i : Int)) (hb : b = (i : Int) + 1) : (Instr.slice 9 (.string ⟨s.toArray⟩) (some (.int .i64 a)) (some (.int .i64 b)) none).run Try.prog W = .ok (.string ⟨[x].toArray⟩) W := by
  obtain ⟨hi, rfl⟩ := List.getElem?_eq_some_iff.1 h
  subst ha hb
  have hz : ByteArray.size ⟨s.toArray⟩ = s.length := rfl
  rw [run_slice_string W 9 ⟨s.toArray⟩ .i64 .i64 i ((i : Int) + 1) Try.underlying9 (by omega) (by omega) (by rw [hz]; omega)]
  congr 2
  apply ByteArray.ext
  rw [ByteArray.data_extract]
  apply Array.ext
  · simp; omega
  · intro k h1 h2
    simp at h1 h2
    simp [h2]
theorem below_drewN {B : Nat} {a w : World} (h : Below B a w) (n : Nat) : Below B a (w.drewN n) := ⟨h.os, h.tape, h.output, h.size, h.block⟩
theorem below_step {B q : Nat} {a w w' : World} (h : Below B a w) (hq : w' = w.drewN q) : Below B a w' := by subst hq; exact ⟨h.os, h.tape, h.output, h.size, h.block⟩
theorem ext_str (s : List UInt8) (i j : Nat) : (⟨s.toArray⟩ : ByteArray).extract i j = ⟨((s.drop i).take (j - i)).toArray⟩ := by
  apply ByteArray.ext
  rw [ByteArray.data_extract]
  show s.toArray.extract i j = _
  rw [List.extract_toArray]
theorem cutPre (W : World) (s : List UInt8) (m : Nat) (h : m ≤ s.length) : (Instr.slice 9 (.string ⟨s.toArray⟩) none (some (.int .i64 (m : Int))) none).run Try.prog W = .ok (.string ⟨(s.take m).toArray⟩) W := by
  have hz : ByteArray.size ⟨s.toArray⟩ = s.length := rfl
  rw [run_slice_string_h W 9 ⟨s.toArray⟩ Try.underlying9 .i64 (m : Int) (by omega) (by rw [hz]; omega), ext_str]
  simp
theorem cutSuf (W : World) (s : List UInt8) (m : Nat) (h : m ≤ s.length) : (Instr.slice 9 (.string ⟨s.toArray⟩) (some (.int .i64 (m : Int))) none none).run Try.prog W = .ok (.string ⟨(s.drop m).toArray⟩) W := by
  have hz : ByteArray.size ⟨s.toArray⟩ = s.length := rfl
  rw [run_slice_string_l W 9 ⟨s.toArray⟩ Try.underlying9 .i64 (m : Int) (by omega) (by rw [hz]; omega), ext_str, hz]
  simp [List.take_of_length_le]
end Go.Proofs.Ytlipmlbijddopaa
