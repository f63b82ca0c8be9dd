/-
  A chunk.Reader in memory, and its steps that store one cell.
-/
import Derived.Test.YtkjibnhihdbmdaaDoorOwnsG
import Derived.Test.YtkjibnhihdbmdaaDoorChunkDig
import Derived.OneCell
set_option linter.unusedVariables false
set_option linter.unusedSimpArgs false
namespace Go.Proofs.YtkjibnhihdbmdaaDoor
open Go.RowKit
/-- blocks that stay as they are -/
abbrev Frm := List (Nat × Obj)
variable {fr : Frm}
/-- what the field 'step' holds -/
def stV (g : Nat) : St → Value
  | .first => .func (.func 59) #[.pointer (some ⟨g, 0, none⟩)] #[]
  | .more => .func (.func 78) #[.pointer (some ⟨g, 0, none⟩)] #[]
  | .ext => .func (.func 88) #[.pointer (some ⟨g, 0, none⟩)] #[]
  | .sized => .func (.func 89) #[.pointer (some ⟨g, 0, none⟩)] #[]
  | .data => .func (.func 97) #[.pointer (some ⟨g, 0, none⟩)] #[]
  | .behind => .func (.func 105) #[.pointer (some ⟨g, 0, none⟩)] #[]
  | .next => .func (.func 110) #[.pointer (some ⟨g, 0, none⟩)] #[]
  | .after => .func (.func 98) #[.pointer (some ⟨g, 0, none⟩)] #[]
  | .trailer => .func (.func 107) #[.pointer (some ⟨g, 0, none⟩)] #[]
  | .taken => .func (.func 111) #[.pointer (some ⟨g, 0, none⟩)] #[]
  | .last => .func (.func 106) #[.pointer (some ⟨g, 0, none⟩)] #[]
  | .nil => .nilFunc
def rdrCells (g : Nat) (r : Rdr) (vb vt vl : Value) : List Value := [stV g r.st, .bool true, .int .i64 r.bad, vb, vt, vl, .int .i64 r.size, .int .i64 r.digits]
/-- a reader at block g, whose slices are of the call's own, each in a block of its own -/
structure Inv (fr : Frm) (w : World) (base g : Nat) (r : Rdr) (vb vt vl : Value) : Prop where
  own : Own w g (rdrCells g r vb vt vl)
  ge : base ≤ g
  lt : g < w.heap.size
  rows : Owns w base [(5, vb, bc r.body), (9, vt, sc r.trs), (5, vl, bc r.line)]
  nb : vb.ownBlock ≠ some g
  nt : vt.ownBlock ≠ some g
  nl : vl.ownBlock ≠ some g
  kp : ∀ x ∈ fr, w.heap[x.1]? = some x.2
  na : ∀ x ∈ fr, x.1 ≠ g ∧ vb.ownBlock ≠ some x.1 ∧ vt.ownBlock ≠ some x.1 ∧ vl.ownBlock ≠ some x.1
theorem Inv.cell {w : World} {base g : Nat} {r : Rdr} {vb vt vl : Value} (h : Inv fr w base g r vb vt vl) (k : Nat) {u : Value} (hu : (rdrCells g r vb vt vl)[k]? = some u) : w.cell? ⟨g, k, none⟩ = some u ∧ w.frozen? ⟨g, k, none⟩ = false := h.own k u hu
theorem Owns.set_ {w : World} {base g : Nat} {l : OwnL} (h : Owns w base l) (hn : ∀ x ∈ l, x.2.1.ownBlock ≠ some g) (k : Nat) (u : Value) : Owns (w.setCell ⟨g, k, Option.none⟩ u) base l :=
  ⟨fun x hx => ownsRow_setCell_other (a := ⟨g, k, Option.none⟩) (h.1 x hx) (hn x hx) u, h.2⟩
theorem Inv.away {w : World} {base g : Nat} {r : Rdr} {vb vt vl : Value} (h : Inv fr w base g r vb vt vl) : ∀ x ∈ [(5, vb, bc r.body), (9, vt, sc r.trs), (5, vl, bc r.line)], x.2.1.ownBlock ≠ some g := by
  intro x hx
  simp only [List.mem_cons, List.mem_nil_iff, or_false] at hx
  rcases hx with rfl | rfl | rfl
  · exact h.nb
  · exact h.nt
  · exact h.nl
theorem kp_set {w : World} {g : Nat} (hk : ∀ x ∈ fr, w.heap[x.1]? = some x.2) (hn : ∀ x ∈ fr, x.1 ≠ g) (k : Nat) (u : Value) : ∀ x ∈ fr, (w.setCell ⟨g, k, none⟩ u).heap[x.1]? = some x.2 := fun x hx => (Below.heap_setCell _ _ _ _ (hn x hx)).trans (hk x hx)
/-- the step that comes next -/
theorem Inv.setSt {w : World} {base g : Nat} {r : Rdr} {vb vt vl : Value} (h : Inv fr w base g r vb vt vl) (s : St) : Inv fr (w.setCell ⟨g, 0, none⟩ (stV g s)) base g { r with st := s } vb vt vl :=
  ⟨h.own.set_ 0 (stV g s), h.ge, by have := h.lt; simpa using this, h.rows.set_ h.away 0 _, h.nb, h.nt, h.nl, kp_set h.kp (fun x hx => (h.na x hx).1) 0 _, h.na⟩
theorem Inv.setBad {w : World} {base g : Nat} {r : Rdr} {vb vt vl : Value} (h : Inv fr w base g r vb vt vl) (n : Nat) : Inv fr (w.setCell ⟨g, 2, none⟩ (.int .i64 n)) base g { r with bad := n } vb vt vl :=
  ⟨h.own.set_ 2 _, h.ge, by have := h.lt; simpa using this, h.rows.set_ h.away 2 _, h.nb, h.nt, h.nl, kp_set h.kp (fun x hx => (h.na x hx).1) 2 _, h.na⟩
theorem Inv.setSize {w : World} {base g : Nat} {r : Rdr} {vb vt vl : Value} (h : Inv fr w base g r vb vt vl) (n : Nat) : Inv fr (w.setCell ⟨g, 6, none⟩ (.int .i64 n)) base g { r with size := n } vb vt vl :=
  ⟨h.own.set_ 6 _, h.ge, by have := h.lt; simpa using this, h.rows.set_ h.away 6 _, h.nb, h.nt, h.nl, kp_set h.kp (fun x hx => (h.na x hx).1) 6 _, h.na⟩
theorem Inv.setDigits {w : World} {base g : Nat} {r : Rdr} {vb vt vl : Value} (h : Inv fr w base g r vb vt vl) (n : Nat) : Inv fr (w.setCell ⟨g, 7, none⟩ (.int .i64 n)) base g { r with digits := n } vb vt vl :=
  ⟨h.own.set_ 7 _, h.ge, by have := h.lt; simpa using this, h.rows.set_ h.away 7 _, h.nb, h.nt, h.nl, kp_set h.kp (fun x hx => (h.na x hx).1) 7 _, h.na⟩
theorem Inv.drew {w : World} {base g : Nat} {r : Rdr} {vb vt vl : Value} (h : Inv fr w base g r vb vt vl) : Inv fr w.drew base g r vb vt vl := ⟨h.own, h.ge, h.lt, h.rows, h.nb, h.nt, h.nl, h.kp, h.na⟩
theorem run_store_func {P : Program} (w : World) (a : Addr) (m : Mode) (fn : Fn) (first cap : Array Value) : (store a (.func fn first cap) m).run P w = stored P w a (.func fn first cap) m := run_store P w a (.func fn first cap) m rfl
theorem run_store_nilFunc {P : Program} (w : World) (a : Addr) (m : Mode) : (store a .nilFunc m).run P w = stored P w a .nilFunc m := run_store P w a .nilFunc m rfl
/-- what a step does -/
def Steps (fr : Frm) (base g : Nat) (s : Rdr × Nat) (w : World) (e : Ending) (w' : World) : Prop := e = .returned (.int .i64 (s.2 : Int)) ∧ (∃ vb vt vl, Inv fr w' base g s.1 vb vt vl) ∧ Below base w w'
set_option maxRecDepth 100000 in
set_option maxHeartbeats 400000 in
theorem behind_at (base g : Nat) (r : Rdr) (vb vt vl : Value) (c : UInt8) (w : World) (hI : Inv fr w base g r vb vt vl) (hs : r.st = .behind) :
    Calls Tryd.prog 105 #[.pointer (some ⟨g, 0, none⟩), .int .u8 (c.toNat : Int)] w (Steps fr base g (stepR r c) w) := by
  have hc0 := (hI.cell 0 rfl).1
  rw [hs] at hc0
  unfold stV at hc0
  have hf0 := (hI.cell 0 rfl).2
  have hN := hI.setSt .next
  have hb : Below base w (w.setCell ⟨g, 0, none⟩ (stV g .next)) := (Below.refl base w).setCell hI.ge _
  have hst : stepR r c = ({ r with st := .next }, if c = 13 then 0 else 191) := by simp [stepR, hs]
  rw [hst]
  have HI := Lib.hid hN
  have HB := Lib.hid hb
  clear hI hst hN hb
  have hmf : ∀ (fn : Fn) (first cap : Array Value) (w : World), (Instr.makeFunc fn first cap).run Tryd.prog w = .ok (.func fn first cap) w := fun _ _ _ _ => rfl
  have hsf := fun (a : Addr) (fn : Fn) (first cap : Array Value) (w : World) (m : Mode) => run_store_func (P := Tryd.prog) w a m fn first cap
  by_cases h : c = 13
  · subst h
    go_enter Tryd.func105, Tryd.ntmps105
    go_wp2
    go_ret
    exact ⟨rfl, ⟨vb, vt, vl, HI.out⟩, HB.out⟩
  · have hn : ¬ ((c.toNat : Int) = 13) := fun e => h (UInt8.toNat_inj.1 (by show c.toNat = 13; omega))
    rw [if_neg h]
    go_enter Tryd.func105, Tryd.ntmps105
    go_wp2
    go_ret
    exact ⟨rfl, ⟨vb, vt, vl, HI.out⟩, HB.out⟩
set_option maxRecDepth 100000 in
set_option maxHeartbeats 400000 in
theorem next_at (base g : Nat) (r : Rdr) (vb vt vl : Value) (c : UInt8) (w : World) (hI : Inv fr w base g r vb vt vl) (hs : r.st = .next) :
    Calls Tryd.prog 110 #[.pointer (some ⟨g, 0, none⟩), .int .u8 (c.toNat : Int)] w (Steps fr base g (stepR r c) w) := by
  have hc0 := (hI.cell 0 rfl).1
  rw [hs] at hc0
  unfold stV at hc0
  have hf0 := (hI.cell 0 rfl).2
  have hN := hI.setSt .first
  have hb : Below base w (w.setCell ⟨g, 0, none⟩ (stV g .first)) := (Below.refl base w).setCell hI.ge _
  have hst : stepR r c = ({ r with st := .first }, endE c) := by simp [stepR, hs]
  rw [hst]
  have HI := Lib.hid hN
  have HB := Lib.hid hb
  clear hI hst hN hb
  have hmf : ∀ (fn : Fn) (first cap : Array Value) (w : World), (Instr.makeFunc fn first cap).run Tryd.prog w = .ok (.func fn first cap) w := fun _ _ _ _ => rfl
  have hsf := fun (a : Addr) (fn : Fn) (first cap : Array Value) (w : World) (m : Mode) => run_store_func (P := Tryd.prog) w a m fn first cap
  go_enter Tryd.func110, Tryd.ntmps110
  go_wp2_with (go_at_call 99; refine (end_at c _).mono ?_; rintro e w1 ⟨rfl, rfl⟩)
  go_ret
  exact ⟨rfl, ⟨vb, vt, vl, HI.out⟩, HB.out⟩
set_option maxRecDepth 100000 in
set_option maxHeartbeats 400000 in
theorem last_at (base g : Nat) (r : Rdr) (vb vt vl : Value) (c : UInt8) (w : World) (hI : Inv fr w base g r vb vt vl) (hs : r.st = .last) :
    Calls Tryd.prog 106 #[.pointer (some ⟨g, 0, none⟩), .int .u8 (c.toNat : Int)] w (Steps fr base g (stepR r c) w) := by
  have hc0 := (hI.cell 0 rfl).1
  rw [hs] at hc0
  unfold stV at hc0
  have hf0 := (hI.cell 0 rfl).2
  have hN := hI.setSt .nil
  have hb : Below base w (w.setCell ⟨g, 0, none⟩ (stV g .nil)) := (Below.refl base w).setCell hI.ge _
  have hst : stepR r c = ({ r with st := .nil }, endE c) := by simp [stepR, hs]
  rw [hst]
  have HI := Lib.hid hN
  have HB := Lib.hid hb
  clear hI hst hN hb
  have hsf := fun (a : Addr) (w : World) (m : Mode) => run_store_nilFunc (P := Tryd.prog) w a m
  go_enter Tryd.func106, Tryd.ntmps106
  go_wp2_with (go_at_call 99; refine (end_at c _).mono ?_; rintro e w1 ⟨rfl, rfl⟩)
  go_ret
  exact ⟨rfl, ⟨vb, vt, vl, HI.out⟩, HB.out⟩
set_option maxRecDepth 100000 in
set_option maxHeartbeats 400000 in
theorem sized_at (base g : Nat) (r : Rdr) (vb vt vl : Value) (c : UInt8) (w : World) (hI : Inv fr w base g r vb vt vl) (hs : r.st = .sized) :
    Calls Tryd.prog 89 #[.pointer (some ⟨g, 0, none⟩), .int .u8 (c.toNat : Int)] w (Steps fr base g (stepR r c) w) := by
  have hc0 := (hI.cell 0 rfl).1
  rw [hs] at hc0
  unfold stV at hc0
  have hf0 := (hI.cell 0 rfl).2
  have hc6 := (hI.cell 6 rfl).1
  have hN := hI.setSt .data
  have hM := hN.setSt .after
  have hb : Below base w (w.setCell ⟨g, 0, none⟩ (stV g .data)) := (Below.refl base w).setCell hI.ge _
  have hb2 : Below base w ((w.setCell ⟨g, 0, none⟩ (stV g .data)).setCell ⟨g, 0, none⟩ (stV g .after)) := hb.setCell hI.ge _
  have hst : stepR r c = ({ r with st := if r.size = 0 then .after else .data }, endE c) := by simp [stepR, hs]
  rw [hst]
  have HI := Lib.hid hN
  have HM := Lib.hid hM
  have HB := Lib.hid hb
  have HB2 := Lib.hid hb2
  clear hI hst hN hM hb hb2
  have hmf : ∀ (fn : Fn) (first cap : Array Value) (w : World), (Instr.makeFunc fn first cap).run Tryd.prog w = .ok (.func fn first cap) w := fun _ _ _ _ => rfl
  have hsf := fun (a : Addr) (fn : Fn) (first cap : Array Value) (w : World) (m : Mode) => run_store_func (P := Tryd.prog) w a m fn first cap
  by_cases h0 : r.size = 0
  · rw [if_pos h0]
    rw [h0] at hc6
    go_enter Tryd.func89, Tryd.ntmps89
    go_wp2_with (go_at_call 99; refine (end_at c _).mono ?_; rintro e w1 ⟨rfl, rfl⟩)
    go_ret
    exact ⟨rfl, ⟨vb, vt, vl, HM.out⟩, HB2.out⟩
  · rw [if_neg h0]
    have hn : ¬ ((r.size : Int) = 0) := by omega
    go_enter Tryd.func89, Tryd.ntmps89
    go_wp2_with (go_at_call 99; refine (end_at c _).mono ?_; rintro e w1 ⟨rfl, rfl⟩)
    go_ret
    exact ⟨rfl, ⟨vb, vt, vl, HI.out⟩, HB.out⟩
end Go.Proofs.YtkjibnhihdbmdaaDoor
