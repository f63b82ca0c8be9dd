/-
  Strings put together; their bytes, in a world that has a name.
-/
import Derived.Test.YtmhehgalfmdldaaLib
import Derived.Lib.ConvBytes
set_option linter.unusedVariables false
set_option linter.unusedSimpArgs false
namespace Go.Proofs.Ytmhehgalfmdldaa
open Go.RowKit
theorem catStr (a b : List UInt8) : (⟨a.toArray⟩ : ByteArray) ++ (⟨b.toArray⟩ : ByteArray) = ⟨(a ++ b).toArray⟩ := by
  apply ByteArray.ext
  simp
theorem addStr (W : World) (a b : List UInt8) (h : a.length + b.length ≤ 140737488355328) : (binOp .add 9 (.string ⟨a.toArray⟩) (.string ⟨b.toArray⟩)).run Try.prog W = .ok (.string ⟨(a ++ b).toArray⟩) W := by
  rw [binOp_string_add]
  have : (⟨a.toArray⟩ : ByteArray) ++ (⟨b.toArray⟩ : ByteArray) = ⟨(a ++ b).toArray⟩ := by
    apply ByteArray.ext
    simp
  have h1 : ByteArray.size ⟨a.toArray⟩ = a.length := rfl
  have h2 : ByteArray.size ⟨b.toArray⟩ = b.length := rfl
  simp [Op.stringOp, this, h1, h2]
  omega
/-- the world behind '[]byte(s)' -/
def cW (w : World) (l : List UInt8) : World := Lib.bytesWorld w 5 ⟨l.toArray⟩
theorem conv_cW (w : World) (l : List UInt8) (n : Nat) (hn : l.length = n) : (convert 9 22 (.string ⟨l.toArray⟩)).run Try.prog w = .ok (.slice (some ⟨w.heap.size, 0, none⟩) n (grownCap w n 0 5)) (cW w l) := by
  subst hn
  exact Lib.run_convert_string_bytes (P := Try.prog) w 9 22 5 ⟨l.toArray⟩ Try.underlying9 Try.underlying22 Try.underlying5
theorem cW_size (w : World) (l : List UInt8) : (cW w l).heap.size = w.heap.size + 1 := Lib.bytesWorld_size _ _ _
theorem cW_below (w : World) (l : List UInt8) : Below w.heap.size w (cW w l) := by
  obtain ⟨cap, w1, h1, _, h2, _, _⟩ := conv_sb (P := Try.prog) w 9 22 5 l Try.underlying9 Try.underlying22 Try.underlying5
  rw [conv_cW w l l.length rfl] at h1
  have := (Result.ok.inj h1).2
  rw [this]; exact h2
theorem cW_cap (w : World) (l : List UInt8) (n : Nat) (hn : l.length = n) : n ≤ grownCap w n 0 5 := grownCap_ge w n 0 5
theorem cW_rd (w : World) (l : List UInt8) (n : Nat) (hn : l.length = n) : Rd (cW w l) (cW w l).heap.size (some ⟨w.heap.size, 0, none⟩) n (bc l) := by
  subst hn
  obtain ⟨cap, w1, h1, _, h2, h3, h4⟩ := conv_sb (P := Try.prog) w 9 22 5 l Try.underlying9 Try.underlying22 Try.underlying5
  rw [conv_cW w l l.length rfl] at h1
  have := (Result.ok.inj h1).2
  rw [this]
  have h5 := h4.rd (B := w1.heap.size) (by omega)
  rw [bc_length] at h5
  exact h5
theorem keep_cW {w0 W : World} (h : Below w0.heap.size w0 W) (l : List UInt8) : Below w0.heap.size w0 (cW W l) := h.trans ((cW_below W l).mono h.size)
theorem rd_cW {w : World} {A : Option Addr} {n : Nat} {xs : List Value} (h : Rd w w.heap.size A n xs) (l : List UInt8) : Rd (cW w l) (cW w l).heap.size A n xs := (h.below (cW_below w l)).more (cW_below w l).size
end Go.Proofs.Ytmhehgalfmdldaa
