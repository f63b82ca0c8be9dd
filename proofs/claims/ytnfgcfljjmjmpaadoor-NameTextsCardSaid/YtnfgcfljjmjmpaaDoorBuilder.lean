import Derived.Test.YtnfgcfljjmjmpaaDoorLib
import Derived.Lib.Builder
import Derived.Laws.Externs
set_option linter.unusedVariables false
namespace Go.Proofs.YtnfgcfljjmjmpaaDoor
open Go.RowKit

/-- block b is a strings.Builder whose buffer is v -/
def Bd (w : World) (b : Nat) (v : Value) : Prop := ∃ p, (p = .pointer none ∨ p = .pointer (some ⟨b, 0, none⟩)) ∧ w.heap[b]? = some (.cells #[p, v] 48 (0, 0))
/-- from (w, v) to (w', v'): only block b, v's row and new blocks were written -/
structure Kp (w w' : World) (b : Nat) (v v' : Value) : Prop where
  os : w'.os = w.os
  tape : w'.tape = w.tape
  output : w'.output = w.output
  size : w.heap.size ≤ w'.heap.size
  block : ∀ k, k < w.heap.size → k ≠ b → v.ownBlock ≠ some k → w'.heap[k]? = w.heap[k]?
  at_ : ∀ g, v'.ownBlock = some g → v.ownBlock = some g ∨ w.heap.size ≤ g
theorem Kp.refl (w : World) (b : Nat) (v : Value) : Kp w w b v v := ⟨rfl, rfl, rfl, Nat.le_refl _, fun _ _ _ _ => rfl, fun _ h => .inl h⟩
theorem Kp.trans {a b c : World} {k : Nat} {v v1 v2 : Value} (h : Kp a b k v v1) (g : Kp b c k v1 v2) : Kp a c k v v2 := by
  refine ⟨g.os.trans h.os, g.tape.trans h.tape, g.output.trans h.output, Nat.le_trans h.size g.size, fun i hi h1 h2 => ?_, fun i hi => ?_⟩
  · refine (g.block i (Nat.lt_of_lt_of_le hi h.size) h1 (fun e => ?_)).trans (h.block i hi h1 h2)
    rcases h.at_ i e with h3 | h3
    · exact h2 h3
    · omega
  · rcases g.at_ i hi with h1 | h1
    · exact h.at_ i h1
    · exact .inr (Nat.le_trans h.size h1)
theorem Kp.below {w w' : World} {b B : Nat} {v v' : Value} (h : Kp w w' b v v') (hb : B ≤ b) (hv : ∀ g, v.ownBlock = some g → B ≤ g) (hB : B ≤ w.heap.size) : Below B w w' :=
  ⟨h.os, h.tape, h.output, h.size, fun k hk => h.block k (by omega) (by omega) (fun e => by have := hv k e; omega)⟩
theorem Bd.lt {w : World} {b : Nat} {v : Value} (h : Bd w b v) : b < w.heap.size := by
  obtain ⟨p, _, hb⟩ := h
  rcases Nat.lt_or_ge b w.heap.size with h' | h'
  · exact h'
  · simp [Array.getElem?_eq_none h'] at hb
theorem Bd.ne {w : World} {b B : Nat} {v : Value} {xs : List Value} (h : Bd w b v) (ho : Ow w B 5 v xs) : v.ownBlock ≠ some b := by
  obtain ⟨p, _, hb⟩ := h
  exact Lib.ownBlock_ne ho hb (by decide)
theorem szBd : (Tryd.prog.info? 48).map (·.size) = some 2 := by kernel_rfl
set_option maxRecDepth 100000 in
set_option maxHeartbeats 1000000 in
theorem copyCheck_any (b : Nat) (v : Value) (w : World) (h : Bd w b v) :
    Calls Tryd.prog 36 #[.pointer (some ⟨b, 0, none⟩)] w fun e w' => e = .returned (.tuple #[]) ∧ (w' = w ∧ w.heap[b]? = some (.cells #[.pointer (some ⟨b, 0, none⟩), v] 48 (0, 0)) ∨ w' = w.setCell ⟨b, 0, none⟩ (.pointer (some ⟨b, 0, none⟩))) := by
  obtain ⟨j, hj, hjs⟩ := Option.map_eq_some_iff.1 szBd
  obtain ⟨p, hp, hb⟩ := h
  have h0 : w.cell? ⟨b, 0, none⟩ = some p := by simp [World.cell?, hb]
  have hfz : w.frozen? ⟨b, 0, none⟩ = false := by simp [World.frozen?, hb]
  have hsh : w.shape? b = some (48, 2) := by simp [World.shape?, hb]
  rcases hp with rfl | rfl
  · clear hb
    go_enter Tryd.func36, Tryd.ntmps36
    go_wp2
    rw [Lib.run_to_unsafe w ⟨b, 0, none⟩ Tryd.underlying46 Tryd.underlying94 hj (by rw [hjs]; decide) hsh (Nat.zero_lt_succ 1)]
    simp only [Result.andThen]
    rw [Oper.upon_value]
    go_wp2
    rw [run_callFunc_extern Tryd.func52 (by kernel_rfl) (by kernel_rfl) (by kernel_rfl) (e := Extern.AbiNoEscape.same) (by kernel_rfl)]
    rw [Lib.run_noEscape]
    simp only [Result.andThen]
    rw [Oper.upon_value]
    go_wp2
    rw [Lib.run_from_unsafe w ⟨b, 0, none⟩ Tryd.underlying94 Tryd.underlying46 hj hsh (by kernel_rfl)]
    simp only [Result.andThen]
    rw [Oper.upon_value]
    go_wp2
    go_end0
    exact ⟨rfl, .inr rfl⟩
  · have HB := Lib.hid hb
    clear hb
    go_enter Tryd.func36, Tryd.ntmps36
    go_wp2
    rw [Lib.run_neq_ptr_same w _ Tryd.underlying46 hj]
    go_wp2
    go_end0
    exact ⟨rfl, .inl ⟨rfl, HB.out⟩⟩

theorem Kp.set_ {w : World} {b : Nat} {v v1 : Value} (k : Nat) (u : Value) (hv : v1 = v) : Kp w (w.setCell ⟨b, k, none⟩ u) b v v1 :=
  ⟨rfl, rfl, rfl, by simp [World.setCell], fun i _ h1 _ => Below.heap_setCell _ _ _ _ h1, fun g hg => .inl (by rw [← hv]; exact hg)⟩
theorem Kp.gr {w w' : World} {b : Nat} {v v1 : Value} (h : Gr w w' v v1) : Kp w w' b v v1 :=
  ⟨h.1.os, h.1.tape, h.1.output, h.1.size, fun i hi _ h2 => h.1.block i hi (fun e => h2 e.symm), h.2⟩
theorem Kp.alloc {w w' : World} {b : Nat} {v v1 : Value} (h : Kp w w' b v v1) (o : Obj) : Kp w (w'.alloc o) b v v1 :=
  ⟨h.os, h.tape, h.output, by have := h.size; simp; omega, fun i hi h1 h2 => (Below.heap_alloc w' o i (Nat.lt_of_lt_of_le hi h.size)).trans (h.block i hi h1 h2), h.at_⟩
theorem Ow.setFar {w : World} {B b : Nat} {v : Value} {xs : List Value} (h : Ow w B 5 v xs) (hne : v.ownBlock ≠ some b) (k : Nat) (u : Value) : Ow (w.setCell ⟨b, k, none⟩ u) B 5 v xs :=
  World.ownsRow.kept (row := some b) h ⟨rfl, rfl, rfl, by simp [World.setCell], fun i _ hk => Below.heap_setCell _ _ _ _ (fun e => hk (by simp [e]))⟩ (Or.inr hne)

theorem check_kp (b B : Nat) (v : Value) (xs : List Value) (w : World) (h : Bd w b v) (hown : Ow w B 5 v xs) :
    Calls Tryd.prog 36 #[.pointer (some ⟨b, 0, none⟩)] w fun e w' => e = .returned (.tuple #[]) ∧ w'.heap[b]? = some (.cells #[.pointer (some ⟨b, 0, none⟩), v] 48 (0, 0)) ∧ Ow w' B 5 v xs ∧ Kp w w' b v v ∧ ∀ k, k ≠ b → w'.heap[k]? = w.heap[k]? := by
  refine (copyCheck_any b v w h).mono ?_
  rintro e w' ⟨rfl, ⟨rfl, hb⟩ | rfl⟩
  · exact ⟨rfl, hb, hown, Kp.refl _ _ _, fun _ _ => rfl⟩
  · obtain ⟨p, _, hb⟩ := id h
    refine ⟨rfl, ?_, hown.setFar (h.ne hown) _ _, Kp.set_ _ _ rfl, fun k hk => Below.heap_setCell _ _ _ _ hk⟩
    simp [World.setCell, Array.getElem?_modify, hb]

set_option maxRecDepth 100000 in
set_option maxHeartbeats 1000000 in
theorem wbyte_any (b B : Nat) (v : Value) (l : List UInt8) (x : Int) (y : UInt8) (hx : x = (y.toNat : Int)) (w : World) (h : Bd w b v) (hown : Ow w B 5 v (bc l)) (hl : l.length + 1 ≤ 140737488355328) (hB : B ≤ w.heap.size) :
    Calls Tryd.prog 20 #[.pointer (some ⟨b, 0, none⟩), .int .u8 x] w fun e w' => e = .returned .nilIface ∧ ∃ v', Bd w' b v' ∧ Ow w' B 5 v' (bc (l ++ [y])) ∧ Kp w w' b v v' := by
  obtain ⟨i0, hi, hz0, hz1, hz2⟩ := info_parts Tryd.infoByte
  go_enter Tryd.func20, Tryd.ntmps20
  go_wp2_with (go_at_call 36; refine (check_kp b B v (bc l) w h hown).mono ?_)
  rintro e w1 ⟨rfl, hb1, hown1, hk1, _⟩
  have hbl : b < w1.heap.size := Nat.lt_of_lt_of_le h.lt hk1.size
  have hne := h.ne hown
  have c0 : w1.cell? ⟨b, 0, none⟩ = some (.pointer (some ⟨b, 0, none⟩)) := by rw [Lib.cell_of_heap hb1]; rfl
  have c1 : w1.cell? ⟨b, 1, none⟩ = some v := by rw [Lib.cell_of_heap hb1]; rfl
  have hs1 := hk1.size
  have HB1 := Lib.hid hb1
  have HX := Lib.hid hx
  clear hb1 hx
  go_wp2_with (at_builtin; refine wpList_app _ rfl _ _ _ _ rfl B 5 i0 (.int .u8 0) 1 Tryd.underlying28 hi hz0 hz1 hz2 rfl (Nat.le_refl _) _ _ (hown1.alloc _) rfl 1 [_] (one_src Tryd.underlying28 _ rfl) (by simp; omega) (by simp; omega) ?_)
  intro v2 w2 hown2 hgr2 hsz2
  have hb2 : w2.heap[b]? = some (.cells #[.pointer (some ⟨b, 0, none⟩), v] 48 (0, 0)) := by
    rw [hgr2.1.block b (by simp; omega) (fun e => hne e.symm), Below.heap_alloc w1 _ b hbl]
    exact HB1.out
  have d0 : w2.cell? ⟨b, 0, none⟩ = some (.pointer (some ⟨b, 0, none⟩)) := by rw [Lib.cell_of_heap hb2]; rfl
  have d1 : w2.cell? ⟨b, 1, none⟩ = some v := by rw [Lib.cell_of_heap hb2]; rfl
  have d2 : w2.frozen? ⟨b, 1, none⟩ = false := by rw [Lib.frozen_of_heap hb2]
  have hne2 : v2.ownBlock ≠ some b := Lib.ownBlock_ne hown2 hb2 (by decide)
  have HB2 := Lib.hid hb2
  clear hb2
  obtain ⟨A2, cc2, rfl, _, _, _⟩ := hown2.form
  go_wp2
  go_ret
  refine ⟨rfl, _, ⟨_, .inr rfl, ?_⟩, ?_, (hk1.trans (((Kp.refl w1 b v).alloc _).trans (Kp.gr hgr2))).trans (Kp.set_ _ _ rfl)⟩
  · simp [World.setCell, Array.getElem?_modify, HB2.out]
  · have e1 : bc (l ++ [y]) = bc l ++ [.int .u8 x] := by simp [bc, HX.out]
    rw [e1]
    exact hown2.setFar hne2 _ _

set_option maxRecDepth 100000 in
set_option maxHeartbeats 1000000 in
theorem write_any (b B : Nat) (v : Value) (l m : List UInt8) (A : Option Addr) (c B' : Nat) (w : World) (h : Bd w b v) (hown : Ow w B 5 v (bc l)) (hm : Rd w B' A m.length (bc m)) (hm2 : ∀ g o, A = some ⟨g, o, none⟩ → g ≠ b) (hl : l.length + m.length ≤ 140737488355328) (hB : B ≤ w.heap.size) :
    Calls Tryd.prog 21 #[.pointer (some ⟨b, 0, none⟩), .slice A m.length c] w fun e w' => e = .returned (.tuple #[.int .i64 m.length, .nilIface]) ∧ ∃ v', Bd w' b v' ∧ Ow w' B 5 v' (bc (l ++ m)) ∧ Kp w w' b v v' := by
  obtain ⟨i0, hi, hz0, hz1, hz2⟩ := info_parts Tryd.infoByte
  go_enter Tryd.func21, Tryd.ntmps21
  go_wp2_with (go_at_call 36; refine (check_kp b B v (bc l) w h hown).mono ?_)
  rintro e w1 ⟨rfl, hb1, hown1, hk1, hfar⟩
  have hm1 : Rd w1 B' A m.length (bc m) := ⟨hm.1, fun hn => by
    obtain ⟨g, o, e, hg, hc⟩ := hm.2 hn
    exact ⟨g, o, e, hg, fun j u hu => (World.cell?_of_block (hfar g (hm2 g o e))).trans (hc j u hu)⟩⟩
  have hbl : b < w1.heap.size := Nat.lt_of_lt_of_le h.lt hk1.size
  have hne := h.ne hown
  have c0 : w1.cell? ⟨b, 0, none⟩ = some (.pointer (some ⟨b, 0, none⟩)) := by rw [Lib.cell_of_heap hb1]; rfl
  have c1 : w1.cell? ⟨b, 1, none⟩ = some v := by rw [Lib.cell_of_heap hb1]; rfl
  have hs1 := hk1.size
  have HB1 := Lib.hid hb1
  clear hb1 hfar hm2
  go_wp2_with (at_builtin; refine wpList_app _ rfl _ _ _ _ rfl B 5 i0 (.int .u8 0) 1 Tryd.underlying28 hi hz0 hz1 hz2 rfl (Nat.le_refl _) _ _ hown1 rfl m.length (bc m) (hm1.src Tryd.underlying28 (bc_one m)) (by simp; omega) (by omega) ?_)
  intro v2 w2 hown2 hgr2 hsz2
  have hb2 : w2.heap[b]? = some (.cells #[.pointer (some ⟨b, 0, none⟩), v] 48 (0, 0)) := by
    rw [hgr2.1.block b hbl (fun e => hne e.symm)]
    exact HB1.out
  have d0 : w2.cell? ⟨b, 0, none⟩ = some (.pointer (some ⟨b, 0, none⟩)) := by rw [Lib.cell_of_heap hb2]; rfl
  have d1 : w2.cell? ⟨b, 1, none⟩ = some v := by rw [Lib.cell_of_heap hb2]; rfl
  have d2 : w2.frozen? ⟨b, 1, none⟩ = false := by rw [Lib.frozen_of_heap hb2]
  have hne2 : v2.ownBlock ≠ some b := Lib.ownBlock_ne hown2 hb2 (by decide)
  have HB2 := Lib.hid hb2
  clear hb2
  obtain ⟨A2, cc2, rfl, _, _, _⟩ := hown2.form
  go_wp2
  go_ret2
  refine ⟨rfl, _, ⟨_, .inr rfl, ?_⟩, ?_, (hk1.trans (Kp.gr hgr2)).trans (Kp.set_ _ _ rfl)⟩
  · simp [World.setCell, Array.getElem?_modify, HB2.out]
  · have e1 : bc (l ++ m) = bc l ++ bc m := by simp [bc]
    rw [e1]
    exact hown2.setFar hne2 _ _

theorem bstring_any (b B : Nat) (v : Value) (l : List UInt8) (w : World) (h : Bd w b v) (hBb : B ≤ b) (hown : Ow w B 5 v (bc l)) (hB : B ≤ w.heap.size) :
    Calls Tryd.prog 22 #[.pointer (some ⟨b, 0, none⟩)] w fun e w' => e = .returned (.string ⟨l.toArray⟩) ∧ Below B w w' := by
  have e1 : Lib.byteCells l = bc l := rfl
  refine Tryd.Builder_String_any B b l w ?_ hB
  obtain ⟨p, hp, hb⟩ := id h
  rcases hp with rfl | rfl
  · exact .inl ⟨hBb, v, hb, by rw [e1]; exact hown, h.ne hown⟩
  · exact .inr ⟨hBb, v, hb, by rw [e1]; exact hown, h.ne hown⟩
end Go.Proofs.YtnfgcfljjmjmpaaDoor
