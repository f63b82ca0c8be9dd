/-
  dns: the reader: a question.
-/
import Derived.Test.YtlipmlbijddopaaDnsQ1
set_option linter.unusedVariables false
set_option linter.unusedSimpArgs false
namespace Go.Proofs.Ytlipmlbijddopaa
open Go.RowKit
section
variable {w w' : World} {g : Nat} {e : TypeId} {cs : List Value}
theorem Vx.loadQ (h : Vx w g e cs) (hn : cs.length = 3) : (loadVar 38 ⟨g, 0, none⟩).run Try.prog w = .ok (.agg cs.toArray) w :=
  run_loadVar_row w g _ _ cs.toArray _ _ h Try.underlying38 rfl (by rw [List.size_toArray, hn]; kernel_rfl)
theorem Vx.loadR (h : Vx w g e cs) (hn : cs.length = 9) : (loadVar 41 ⟨g, 0, none⟩).run Try.prog w = .ok (.agg cs.toArray) w :=
  run_loadVar_row w g _ _ cs.toArray _ _ h Try.underlying41 rfl (by rw [List.size_toArray, hn]; kernel_rfl)
theorem Vx.loadM (h : Vx w g e cs) (hn : cs.length = 6) : (loadVar 28 ⟨g, 0, none⟩).run Try.prog w = .ok (.agg cs.toArray) w :=
  run_loadVar_row w g _ _ cs.toArray _ _ h Try.underlying28 rfl (by rw [List.size_toArray, hn]; kernel_rfl)
theorem resQ {fn : Func} {q : Tmp} (h : fn.results = #[.cell q 38]) (tmps : Array Value) (W : World) (g : Nat) (e : TypeId) (cs : List Value) (hq : tmps[q]? = some (.pointer (some ⟨g, 0, none⟩))) (hx : Vx W g e cs) (hn : cs.length = 3) :
    (results fn tmps).run Try.prog W = .ok (.agg cs.toArray) W := by
  simp [results, h, hq, asAddr, hx.loadQ hn]
theorem resR {fn : Func} {q : Tmp} (h : fn.results = #[.cell q 41]) (tmps : Array Value) (W : World) (g : Nat) (e : TypeId) (cs : List Value) (hq : tmps[q]? = some (.pointer (some ⟨g, 0, none⟩))) (hx : Vx W g e cs) (hn : cs.length = 9) :
    (results fn tmps).run Try.prog W = .ok (.agg cs.toArray) W := by
  simp [results, h, hq, asAddr, hx.loadR hn]
theorem set3_vx {a b c : Value} (h : Vx w g e cs) (hn : cs.length = 3) : Vx (((w.setCell ⟨g, 0, none⟩ a).setCell ⟨g, 1, none⟩ b).setCell ⟨g, 2, none⟩ c) g e [a, b, c] := by
  have := ((h.set_ 0 a).set_ 1 b).set_ 2 c
  match cs, hn with
  | [_, _, _], _ => exact this
theorem set9_vx {a0 a1 a2 a3 a4 a5 a6 a7 a8 : Value} (h : Vx w g e cs) (hn : cs.length = 9) : Vx (((((((((w.setCell ⟨g, 0, none⟩ a0).setCell ⟨g, 1, none⟩ a1).setCell ⟨g, 2, none⟩ a2).setCell ⟨g, 3, none⟩ a3).setCell ⟨g, 4, none⟩ a4).setCell ⟨g, 5, none⟩ a5).setCell ⟨g, 6, none⟩ a6).setCell ⟨g, 7, none⟩ a7).setCell ⟨g, 8, none⟩ a8) g e [a0, a1, a2, a3, a4, a5, a6, a7, a8] := by
  have := ((((((((h.set_ 0 a0).set_ 1 a1).set_ 2 a2).set_ 3 a3).set_ 4 a4).set_ 5 a5).set_ 6 a6).set_ 7 a7).set_ 8 a8
  match cs, hn with
  | [_, _, _, _, _, _, _, _, _], _ => exact this
theorem Only.cell {a b : World} {g : Nat} (h : Only a b g) {p : Addr} {v : Value} (hc : a.cell? p = some v) (hne : p.block ≠ g) : b.cell? p = some v :=
  World.grownBy.cell h hc (fun e => hne (Option.some.inj e))
theorem Ow.only {base : Nat} {t : TypeId} {v : Value} {xs : List Value} (h : Ow w base t v xs) (hO : Only w w' g) (hg : g < base) : Ow w' base t v xs :=
  World.ownsRow.kept (row := some g) h hO (.inr (fun e => by have := h.lt _ e; omega))
theorem below_to_only {B : Nat} {g : Nat} (h : Below B w w') (hB : w.heap.size ≤ B) : Only w w' g := ⟨h.os, h.tape, h.output, h.size, fun i hi _ => h.block i (Nat.lt_of_lt_of_le hi hB)⟩
end
theorem RdS.newSet {w0 w : World} {g : Nat} {A : Option Addr} {c : Nat} {b : List UInt8} {s0 s : St} (h : RdS w g A c b s) (h0 : RdS w0 g A c b s0) {q : Nat} (hq : w0.heap.size ≤ q) (k : Nat) (u : Value) : RdS (w.setCell ⟨q, k, none⟩ u) g A c b s := by
  refine ⟨h.vx.setO (by have := h0.vx.lt; omega) _ _, ⟨h.rd.1, fun hn => ?_⟩, h.cap, h.len, h.off, h.ok, h.sm⟩
  obtain ⟨bb, o, rfl, hb, hc⟩ := h.rd.2 hn
  obtain ⟨b', o', e, hb', _⟩ := h0.rd.2 hn
  cases e
  refine ⟨bb, o, rfl, by simpa using hb, fun j u' hu => ?_⟩
  rw [World.cell?_setCell_other _ _ _ _ (by intro e; injection e with e1; omega)]
  exact hc j u' hu
/-- the writes since a world, but for block g: only to new blocks -/
theorem Only.newSet {w w' : World} {g q : Nat} (h : Only w w' g) (hq : w.heap.size ≤ q) (k : Nat) (u : Value) : Only w (w'.setCell ⟨q, k, none⟩ u) g :=
  ⟨h.os, h.tape, h.output, by simpa using h.size, fun i hi hne => (heap_setCell_other w' ⟨q, k, none⟩ i u (by show i ≠ q; omega)).trans (h.block i hi hne)⟩
set_option maxRecDepth 100000 in
set_option maxHeartbeats 400000 in
theorem newnum_at (g : Nat) (w : World) :
    Calls Try.prog 38 #[.pointer (some ⟨g, 0, none⟩)] w fun e w' => e = .returned (numF w.heap.size) ∧ w' = w.alloc (.cells #[.pointer (some ⟨g, 0, none⟩)] 95) := by
  go_enter Try.func38, Try.ntmps38
  go_wp2_with fail
  go_ret
  exact ⟨rfl, rfl⟩
theorem name_at2 (g : Nat) (A : Option Addr) (c : Nat) (b : List UInt8) (s : St) (n : List (List UInt8) × St) (hn : n = rName b s) (w : World) (h : RdS w g A c b s) :
    Calls Try.prog 69 #[.pointer (some ⟨g, 0, none⟩)] w fun e w' => ∃ A' c', e = .returned (.slice A' n.1.length c') ∧ Ow w' w.heap.size 9 (.slice A' n.1.length c') (sc n.1) ∧ RdS w' g A c b n.2 ∧ Only w w' g := by
  subst hn; exact name_at g A c b s w h
theorem num_at2 (p g : Nat) (A : Option Addr) (c : Nat) (b : List UInt8) (s : St) (t : Nat × St) (ht : t = rNum b s) (w : World) (h : RdS w g A c b s) (hp : w.cell? ⟨p, 0, none⟩ = some (.pointer (some ⟨g, 0, none⟩))) (hpg : p ≠ g) :
    Calls Try.prog 67 #[.pointer (some ⟨p, 0, none⟩)] w fun e w' => e = .returned (.int .u16 (t.1 : Int)) ∧ RdS w' g A c b t.2 ∧ Only w w' g ∧ w'.cell? ⟨p, 0, none⟩ = some (.pointer (some ⟨g, 0, none⟩)) := by
  subst ht
  exact (num_at p g A c b s w h hp hpg).mono fun e w' h' => ⟨h'.1, h'.2.1, h'.2.2, h'.2.2.cell hp hpg⟩
set_option maxRecDepth 100000 in
set_option maxHeartbeats 400000 in
theorem question_at (p g : Nat) (A : Option Addr) (c : Nat) (b : List UInt8) (s : St) (w : World) (h : RdS w g A c b s) (hp : w.cell? ⟨p, 0, none⟩ = some (.pointer (some ⟨g, 0, none⟩))) (hpg : p ≠ g) :
    Calls Try.prog 39 #[.pointer (some ⟨g, 0, none⟩), numF p] w fun e w' => ∃ A' c', e = .returned (.agg (QR.cells ⟨A', c', (rQ b s).1⟩).toArray) ∧ Ow w' w.heap.size 9 (.slice A' (rQ b s).1.nm.length c') (sc (rQ b s).1.nm) ∧ RdS w' g A c b (rQ b s).2 ∧ Only w w' g := by
  have hlt := h.vx.lt
  have hpl := World.block_lt_of_cell? _ _ hp
  obtain ⟨n, hn⟩ : ∃ n, n = rName b s := ⟨_, rfl⟩
  obtain ⟨t, ht⟩ : ∃ t, t = rNum b n.2 := ⟨_, rfl⟩
  obtain ⟨cl, hc⟩ : ∃ cl, cl = rNum b t.2 := ⟨_, rfl⟩
  have hQ : rQ b s = (⟨n.1, t.1, cl.1⟩, cl.2) := by simp [rQ, hn, ht, hc]
  rw [hQ]
  have HP := Lib.hid hp
  have HH := Lib.hid h
  have HN := Lib.hid hn
  have HT := Lib.hid ht
  have HC := Lib.hid hc
  clear h hp hn ht hc hQ
  unfold numF QR.cells
  go_enter Try.func39, Try.ntmps39
  go_upto_region 1 with fail
  have hV1 : Vx (w.alloc (.cells #[.slice none 0 0, .int .u16 0, .int .u16 0] 38)) w.heap.size 38 [.slice none 0 0, .int .u16 0, .int .u16 0] := Vx.new w _ _
  have hO1 : Only w (w.alloc (.cells #[.slice none 0 0, .int .u16 0, .int .u16 0] 38)) g := Only.of_below (below_new _ _)
  have hS1 : RdS (w.alloc (.cells #[.slice none 0 0, .int .u16 0, .int .u16 0] 38)) g A c b s := HH.out.go (below_new _ _)
  have hz1 : w.heap.size < (w.alloc (.cells #[.slice none 0 0, .int .u16 0, .int .u16 0] 38)).heap.size := by simp
  generalize w.alloc (.cells #[.slice none 0 0, .int .u16 0, .int .u16 0] 38) = w1 at *
  have hp1 := hO1.cell HP.out hpg
  have tok1 : True := trivial
  have hgw : g < w.heap.size := hlt
  go_wp2_with (first
    | (go_at_call 67
       have _t := tok1
       refine (num_at2 p g A c b n.2 t HT.out w2 hS2 hp2 hpg).mono ?_
       rintro e w3 ⟨rfl, hS3, hO3', hp3⟩
       have hO3 := hO2.trans hO3'
       clear tok1)
    | (go_at_call 67
       refine (num_at2 p g A c b t.2 cl HC.out w3 hS3 hp3 hpg).mono ?_
       rintro e w4 ⟨rfl, hS4, hO4', hp4⟩
       have hO4 := hO3.trans hO4'
       have hV4 := hV1.grown hO4 (fun e => by have := Option.some.inj e; omega)
       obtain ⟨x0, x1, x2⟩ := hV4.c3
       have f0 := hV4.free 0
       have f1 := hV4.free 1
       have f2 := hV4.free 2)
    | (go_at_call 69
       refine (name_at2 g A c b s n HN.out w1 hS1).mono ?_
       rintro e w2 ⟨An, cn, rfl, hn2, hS2, hO2⟩
       have hp2 := hO2.cell hp1 hpg))
  refine bodyPost_ret (resQ Try.results39 _ _ w.heap.size _ _ rfl (set3_vx hV4 rfl) rfl) rfl ?_
  refine ⟨An, cn, rfl, ?_, ?_, ?_⟩
  · have := (hn2.only hO3' (by omega)).only hO4' (by omega)
    exact (ow_setO (ow_setO (ow_setO this (by omega) _ _) (by omega) _ _) (by omega) _ _).mono (by omega)
  · exact ((hS4.newSet HH.out (Nat.le_refl _) _ _).newSet HH.out (Nat.le_refl _) _ _).newSet HH.out (Nat.le_refl _) _ _
  · exact (((hO1.trans hO4).newSet (Nat.le_refl _) _ _).newSet (Nat.le_refl _) _ _).newSet (Nat.le_refl _) _ _
theorem question_at2 (p g : Nat) (A : Option Addr) (c : Nat) (b : List UInt8) (s : St) (q : Qn × St) (hq : q = rQ b s) (w : World) (h : RdS w g A c b s) (hp : w.cell? ⟨p, 0, none⟩ = some (.pointer (some ⟨g, 0, none⟩))) (hpg : p ≠ g) :
    Calls Try.prog 39 #[.pointer (some ⟨g, 0, none⟩), numF p] w fun e w' => ∃ A' c', e = .returned (.agg (QR.cells ⟨A', c', q.1⟩).toArray) ∧ Ow w' w.heap.size 9 (.slice A' q.1.nm.length c') (sc q.1.nm) ∧ RdS w' g A c b q.2 ∧ Only w w' g := by
  subst hq; exact question_at p g A c b s w h hp hpg
end Go.Proofs.Ytlipmlbijddopaa
