import Derived.Test.YtlipmlbijddopaaTurn
import Derived.RangeFuncNested
import Derived.RangeFuncBound
import Derived.RangeFuncCalls
import Derived.RangeFuncLeaves
import Derived.RangeFuncBox
import Derived.Shelf.Abstract
import Derived.Shelf.RegionOpen
import Derived.OwnWalkIn
import Derived.TacticsInMore
import Derived.LoopNIn
import Derived.LoopIn
import Derived.Deep.RegionHeld3
import Derived.Deep.DeepCutAuto
set_option linter.unusedVariables false
namespace Go.Proofs.Ytlipmlbijddopaa
open Go.RowKit Go.Shelf
attribute [local go_sem] Oper.semAt_some

/-- whether a name stands at a place -/
def hit (b : List UInt8) (s : List (List UInt8)) (x : Int) : Bool := decide ((readN b x.toNat).2.2 = 0) && decide ((readN b x.toNat).1 = s) && decide (x < 16384)
def ptr (x : Int) : List UInt8 := [UInt8.ofNat (192 + x.toNat / 256), UInt8.ofNat x.toNat]
def appGo (b : List UInt8) (all : List Int) (n : List (List UInt8)) : Nat → Nat → List UInt8
  | 0, _ => b ++ labS n ++ [0]
  | f + 1, i => match all.find? (hit b (n.drop i)) with
    | some x => b ++ labS (n.take i) ++ ptr x
    | none => appGo b all n f (i + 1)
def appN (b : List UInt8) (known : List Int) (n : List (List UInt8)) : List UInt8 := appGo b (placesN b known) n n.length 0


theorem cell_of_box {W : World} {B : Nat} {v : Value} {t : TypeId} (h : W.heap[B]? = some (.cells #[v] t (0, 0))) : W.cell? ⟨B, 0, none⟩ = some v ∧ W.frozen? ⟨B, 0, none⟩ = false := by
  constructor <;> simp [World.cell?, World.frozen?, h]
theorem new_cell (W : World) (v : Value) (t : TypeId) : (W.alloc (.cells #[v] t)).cell? ⟨W.heap.size, 0, none⟩ = some v ∧ (W.alloc (.cells #[v] t)).frozen? ⟨W.heap.size, 0, none⟩ = false :=
  cell_of_box (World.alloc_heap_new W _)
theorem alloc_cell {W : World} {a : Addr} {v : Value} (o : Obj) (h : W.cell? a = some v ∧ W.frozen? a = false) : (W.alloc o).cell? a = some v ∧ (W.alloc o).frozen? a = false :=
  ⟨cell_kept h.1 (World.grownBy_alloc W o none) (fun r e => by cases e), (frozen_kept h.1 (World.grownBy_alloc W o none) (fun r e => by cases e)).trans h.2⟩
/-- the world in which Append begins, its variables made -/
def w4 (w : World) (A1 A3 : Option Addr) (l1 c1 l3 c3 : Nat) : World := (((w.alloc (.cells #[.slice A1 l1 c1] 22)).alloc (.cells #[.slice A3 l3 c3] 36)).alloc (.cells #[.slice none 0 0] 22)).alloc (.cells #[.int .i64 0] 47)
theorem w4_size (w : World) (A1 A3 : Option Addr) (l1 c1 l3 c3 : Nat) : (w4 w A1 A3 l1 c1 l3 c3).heap.size = w.heap.size + 4 := by simp [w4]
theorem w4_below (w : World) (A1 A3 : Option Addr) (l1 c1 l3 c3 : Nat) : Below w.heap.size w (w4 w A1 A3 l1 c1 l3 c3) := ((((Below.refl _ w).alloc (Nat.le_refl _) _).alloc (by simp) _).alloc (by simp; omega) _).alloc (by simp; omega) _
theorem w4_0 (w : World) (A1 A3 : Option Addr) (l1 c1 l3 c3 : Nat) : (w4 w A1 A3 l1 c1 l3 c3).cell? ⟨w.heap.size, 0, none⟩ = some (.slice A1 l1 c1) :=
  (alloc_cell _ (alloc_cell _ (alloc_cell _ (new_cell w (.slice A1 l1 c1) 22)))).1
theorem w4_1 (w : World) (A1 A3 : Option Addr) (l1 c1 l3 c3 : Nat) : (w4 w A1 A3 l1 c1 l3 c3).cell? ⟨w.heap.size + 1, 0, none⟩ = some (.slice A3 l3 c3) := by
  have := new_cell (w.alloc (.cells #[.slice A1 l1 c1] 22)) (.slice A3 l3 c3) 36
  rw [World.size_alloc] at this
  exact (alloc_cell _ (alloc_cell _ this)).1
theorem w4_2 (w : World) (A1 A3 : Option Addr) (l1 c1 l3 c3 : Nat) : (w4 w A1 A3 l1 c1 l3 c3).cell? ⟨w.heap.size + 1 + 1, 0, none⟩ = some (.slice none 0 0) ∧ (w4 w A1 A3 l1 c1 l3 c3).frozen? ⟨w.heap.size + 1 + 1, 0, none⟩ = false := by
  have := (new_cell ((w.alloc (.cells #[.slice A1 l1 c1] 22)).alloc (.cells #[.slice A3 l3 c3] 36)) (.slice none 0 0) 22)
  rw [World.size_alloc, World.size_alloc] at this
  exact alloc_cell _ this
theorem w4_3 (w : World) (A1 A3 : Option Addr) (l1 c1 l3 c3 : Nat) : (w4 w A1 A3 l1 c1 l3 c3).cell? ⟨w.heap.size + 1 + 1 + 1, 0, none⟩ = some (.int .i64 0) ∧ (w4 w A1 A3 l1 c1 l3 c3).frozen? ⟨w.heap.size + 1 + 1 + 1, 0, none⟩ = false := by
  have := (new_cell (((w.alloc (.cells #[.slice A1 l1 c1] 22)).alloc (.cells #[.slice A3 l3 c3] 36)).alloc (.cells #[.slice none 0 0] 22)) (.int .i64 0) 47)
  rw [World.size_alloc, World.size_alloc, World.size_alloc] at this
  exact this
/-- Append's own variables at the beginning -/
def Vars (H : Nat) (w : World) (A1 A3 : Option Addr) (l1 c1 l3 c3 : Nat) : Prop :=
  H + 4 ≤ w.heap.size ∧ w.cell? ⟨H, 0, none⟩ = some (.slice A1 l1 c1) ∧ w.cell? ⟨H + 1, 0, none⟩ = some (.slice A3 l3 c3) ∧ (w.cell? ⟨H + 1 + 1, 0, none⟩ = some (.slice none 0 0) ∧ w.frozen? ⟨H + 1 + 1, 0, none⟩ = false) ∧ (w.cell? ⟨H + 1 + 1 + 1, 0, none⟩ = some (.int .i64 0) ∧ w.frozen? ⟨H + 1 + 1 + 1, 0, none⟩ = false)
theorem Vars.below {H : Nat} {w w' : World} {A1 A3 : Option Addr} {l1 c1 l3 c3 : Nat} (h : Vars H w A1 A3 l1 c1 l3 c3) {n : Nat} (hb : Below n w w') (hn : H + 4 ≤ n) : Vars H w' A1 A3 l1 c1 l3 c3 := by
  obtain ⟨h0, h1, h2, ⟨h3, h4⟩, h5, h6⟩ := h
  exact ⟨by have := hb.size; omega, (hb.cell (p := ⟨H, 0, none⟩) (by show H < n; omega)).trans h1, (hb.cell (p := ⟨H + 1, 0, none⟩) (by show H + 1 < n; omega)).trans h2,
    ⟨(hb.cell (p := ⟨H + 1 + 1, 0, none⟩) (by show H + 1 + 1 < n; omega)).trans h3, (hb.frozen (p := ⟨H + 1 + 1, 0, none⟩) (by show H + 1 + 1 < n; omega)).trans h4⟩,
    (hb.cell (p := ⟨H + 1 + 1 + 1, 0, none⟩) (by show H + 1 + 1 + 1 < n; omega)).trans h5, (hb.frozen (p := ⟨H + 1 + 1 + 1, 0, none⟩) (by show H + 1 + 1 + 1 < n; omega)).trans h6⟩
theorem w4_vars (w : World) (A1 A3 : Option Addr) (l1 c1 l3 c3 : Nat) : Vars w.heap.size (w4 w A1 A3 l1 c1 l3 c3) A1 A3 l1 c1 l3 c3 :=
  ⟨by rw [w4_size]; omega, w4_0 .., w4_1 .., w4_2 .., w4_3 ..⟩

set_option maxRecDepth 100000 in
set_option maxHeartbeats 2000000 in
theorem append_bad (A1 A2 A3 : Option Addr) (c1 c2 c3 : Nat) (b : List UInt8) (known : List Int) (n : List (List UInt8)) (w : World) (h3 : Rd w w.heap.size A3 n.length (sc n)) (hr : rightN n = false) (hs : sizeN n ≤ 140737488355328) :
    Calls Try.prog 65 #[.slice A1 b.length c1, .slice A2 known.length c2, .slice A3 n.length c3] w fun e w' => e = .returned (.tuple #[.slice none 0 0, .int .i64 160]) ∧ Below w.heap.size w w' := by
  refine (callsIn_wide (n := 5)).1 ?_
  refine callsIn_of_wp_marks Try.func65 rfl trivial ?_ rfl
  simp only [Try.ntmps65, List.size_toArray, List.length_cons, List.length_nil, Nat.reduceAdd, Nat.reduceSub, Array.replicate_succ, Array.replicate_zero, List.push_toArray, List.append_toArray, List.nil_append, List.cons_append]
  refine wpIn_wide.2 ?_
  go_wp2_with fail
  have hb0 := w4_below w A1 A3 b.length c1 n.length c3
  have hv0 := w4_vars w A1 A3 b.length c1 n.length c3
  have hw0 : w4 w A1 A3 b.length c1 n.length c3 = ((((w.alloc (.cells #[.slice A1 b.length c1] 22)).alloc (.cells #[.slice A3 n.length c3] 36)).alloc (.cells #[.slice none 0 0] 22)).alloc (.cells #[.int .i64 0] 47)) := rfl
  rw [← hw0]
  clear hw0
  generalize w4 w A1 A3 b.length c1 n.length c3 = w0 at *
  refine (right_any A3 c3 n w0 ((h3.below hb0).more hb0.size) hs).mono ?_
  rw [hr]
  rintro e w1 ⟨rfl, hb1⟩
  have hv1 := hv0.below hb1 hv0.1
  obtain ⟨hsz, j0, j1, ⟨j2a, j2b⟩, j3a, j3b⟩ := hv1
  go_wp2
  have hb2 := ((hb0.trans (hb1.mono hb0.size)).setCell (p := ⟨w.heap.size + 1 + 1, 0, none⟩) (by simp; omega) (.slice none 0 0)).setCell (p := ⟨w.heap.size + 1 + 1 + 1, 0, none⟩) (by simp; omega) (.int .i64 160)
  have q3 : ((w1.setCell ⟨w.heap.size + 1 + 1, 0, none⟩ (.slice none 0 0)).setCell ⟨w.heap.size + 1 + 1 + 1, 0, none⟩ (.int .i64 160)).cell? ⟨w.heap.size + 1 + 1 + 1, 0, none⟩ = some (.int .i64 160) :=
    World.cell?_setCell_same' _ _ _ (by rw [World.cell?_setCell_other _ _ _ _ (by intro e; injection e; omega), j3a]; rfl)
  have q2 : ((w1.setCell ⟨w.heap.size + 1 + 1, 0, none⟩ (.slice none 0 0)).setCell ⟨w.heap.size + 1 + 1 + 1, 0, none⟩ (.int .i64 160)).cell? ⟨w.heap.size + 1 + 1, 0, none⟩ = some (.slice none 0 0) := by
    rw [World.cell?_setCell_other _ _ _ _ (by intro e; injection e; omega)]
    exact World.cell?_setCell_same' _ _ _ (by rw [j2a]; rfl)
  refine ⟨.tuple #[.slice none 0 0, .int .i64 160], ?_, rfl, hb2⟩
  simp [results, Try.f65, go_sem, q2, q3]
end Go.Proofs.Ytlipmlbijddopaa
