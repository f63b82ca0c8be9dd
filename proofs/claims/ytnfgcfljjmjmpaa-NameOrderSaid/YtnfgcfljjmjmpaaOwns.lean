/-
  Several slices of the call's own, in different blocks.
-/
import Derived.Test.YtnfgcfljjmjmpaaTells
import Derived.Test.YtnfgcfljjmjmpaaOwnsG
set_option linter.unusedVariables false
set_option linter.unusedSimpArgs false
namespace Go.Proofs.Ytnfgcfljjmjmpaa
open Go.RowKit
/-- rows of a slice of slices -/
structure Row where
  A : Option Addr
  c : Nat
  l : List (List UInt8)
def Row.v (r : Row) : Value := .slice r.A r.l.length r.c
def Row.own (r : Row) : TypeId × Value × List Value := (9, r.v, sc r.l)
theorem Try.infoRow : (Try.prog.info? 25).map (fun i => (i.zero, i.size, i.bytes)) = some (some (.slice none 0 0), 1, 24) := by kernel_rfl
/-- a slice of slices of strings that can be read -/
def RdR (w : World) (B : Nat) (A : Option Addr) (n : Nat) (rows : List Row) : Prop := Rd w B A n (rows.map Row.v) ∧ ∀ r ∈ rows, Rd w B r.A r.l.length (sc r.l) ∧ r.l.length ≤ r.c ∧ r.l.length * 16 ≤ 140737488351232 ∧ ∀ x ∈ r.l, x.length ≤ 140737488351232
theorem RdR.below {w w' : World} {B n : Nat} {A : Option Addr} {rows : List Row} (h : RdR w B A n rows) (hb : Below B w w') : RdR w' B A n rows := ⟨h.1.below hb, fun r hr => ⟨(h.2 r hr).1.below hb, (h.2 r hr).2⟩⟩
theorem RdR.pre {w : World} {B n : Nat} {A : Option Addr} {rows : List Row} (h : RdR w B A n rows) {k : Nat} (hk : k ≤ n) : RdR w B A k (rows.take k) := by
  refine ⟨?_, fun r hr => h.2 r (List.mem_of_mem_take hr)⟩
  have := h.1.pre hk
  rwa [← List.map_take] at this
set_option maxRecDepth 100000 in
set_option maxHeartbeats 400000 in
theorem bprefix_at (A1 A2 : Option Addr) (c1 c2 L1 L2 : Nat) (l m : List UInt8) (r : Bool) (w : World) (hr : decide (l.take L2 = m) = r) (h1' : l.length = L1) (h2' : m.length = L2) (hle : L2 ≤ L1) (hc : L1 ≤ c1) (h1 : Rd w w.heap.size A1 L1 (bc l)) (h2 : Rd w w.heap.size A2 L2 (bc m)) (hl : L1 ≤ 140737488355328) :
    Calls Try.prog 23 #[.slice A1 L1 c1, .slice A2 L2 c2] w fun e w' => e = .returned (.bool r) ∧ w = w' := by
  have ksl : ∀ W, (Instr.slice 22 (.slice A1 L1 c1) none (some (.int .i64 (L2 : Int))) none).run Try.prog W = .ok (.slice A1 L2 c1) W := fun W => run_sl_h W _ 5 Try.underlying22 szByte A1 L1 c1 L2 (by omega)
  have hlen : (l.take L2).length = L2 := by rw [List.length_take]; omega
  have HL := Lib.hid hlen
  have HR := Lib.hid hr
  have HM := Lib.hid h2'
  have rp := h1.preB (k := L2) hle
  have d1 : decide (L2 ≤ L1) = true := decide_eq_true hle
  clear hlen hr h1' h2'
  go_enter Try.func23, Try.ntmps23
  go_wp2_with (go_at_call 40; refine (beq_at2 A1 A2 c1 c2 L2 L2 (l.take L2) m r w HR.out HL.out HM.out rp h2).mono ?_; rintro e w1 ⟨rfl, rfl⟩)
  go_ret
  exact ⟨rfl, rfl⟩
end Go.Proofs.Ytnfgcfljjmjmpaa
