/-
  What the guard needs: decoded and encoded bytes under names of their own; literals.
-/
import Derived.Test.YtkjibnhihdbmdaaDoorChunkF2
import Derived.Test.YtkjibnhihdbmdaaDoorChunkEnc2
import Derived.Test.YtkjibnhihdbmdaaDoorSlEq
set_option linter.unusedVariables false
set_option linter.unusedSimpArgs false
namespace Go.Proofs.YtkjibnhihdbmdaaDoor
open Go.RowKit
/-- the package-level variables that are read -/
def EnvOk (w : World) : Prop := TabOk w ∧ ∃ m : Int, w.cell? ⟨0, 0, none⟩ = some (.int .i64 m)
theorem EnvOk.below {w w' : World} (h : EnvOk w) (hb : Below w.heap.size w w') : EnvOk w' := by
  obtain ⟨h1, m, h2⟩ := h
  exact ⟨h1.below hb, m, (hb.cell (World.block_lt_of_cell? _ _ h2)).trans h2⟩
theorem EnvOk.drewN {w : World} (h : EnvOk w) (q : Nat) : EnvOk (w.drewN q) := h
/-- a literal just built -/
theorem rd_lit (w : World) (e : TypeId) (cs : List Value) (n g : Nat) (hg : g = w.heap.size) (hn : cs.length = n) : Rd (w.alloc (.cells cs.toArray e)) (w.alloc (.cells cs.toArray e)).heap.size (some ⟨g, 0, none⟩) n cs := by
  subst hg hn
  exact (own_new w cs e).rd (by simp)
theorem rd_litM (w : World) (e : TypeId) (cs : List Value) (n g a b : Nat) (hg : g = w.heap.size) (hn : cs.length = n) : Rd (w.alloc (.cells cs.toArray e (a, b))) (w.alloc (.cells cs.toArray e (a, b))).heap.size (some ⟨g, 0, none⟩) n cs := by
  subst hg hn
  refine ⟨rfl, fun _ => ⟨w.heap.size, 0, rfl, by simp, fun j u hu => ?_⟩⟩
  rw [Nat.zero_add, World.cell?_alloc_mark w cs.toArray e (a, b) j]
  simpa using hu
theorem rd_top {w : World} {A : Option Addr} {n : Nat} {xs : List Value} (h : Rd w w.heap.size A n xs) (o : Obj) : Rd (w.alloc o) (w.alloc o).heap.size A n xs := (h.alloc (Nat.le_refl _) o).more (by simp)
theorem rd_step {w w' : World} {A : Option Addr} {n : Nat} {xs : List Value} (h : Rd w w.heap.size A n xs) (hb : Below w.heap.size w w') : Rd w' w'.heap.size A n xs := (h.below hb).more hb.size
theorem decode_res (A : Option Addr) (c L : Nat) (l : List UInt8) (w : World) (n e bl : Nat) (B : List UInt8) (hn : (goR newR l 0).2 = n) (he : decE (goR newR l 0).1 = e) (hB : decB (goR newR l 0).1 = B) (hbl : B.length = bl) (hL : l.length = L) (h : Rd w w.heap.size A L (bc l)) (hL2 : L ≤ 281474976710656) :
    Calls Tryd.prog 17 #[.slice A L c] w fun en w' => ∃ A' c', en = .returned (.tuple #[.slice A' bl c', .int .i64 (n : Int), .int .i64 (e : Int)]) ∧ bl ≤ c' ∧ Ow w' w.heap.size 5 (.slice A' bl c') (bc B) ∧ Below w.heap.size w w' := by
  refine (decode_at A c L l w hL h hL2).mono ?_
  rintro en w' ⟨v, rfl, ho, hb⟩
  rw [hB] at ho
  obtain ⟨A', c', rfl, h1, _⟩ := ow_formL ho bl (by rw [bc_length]; exact hbl)
  exact ⟨A', c', by rw [hn, he], h1, ho, hb⟩
theorem encode_res (A A2 : Option Addr) (c L c2 L2 : Nat) (body : List UInt8) (zs : List Int) (w : World) (e bl : Nat) (B : List UInt8) (he : encE body zs = e) (hB : encR body zs = B) (hbl : B.length = bl) (hL : body.length = L) (hL2 : zs.length = L2) (hr : Rd w w.heap.size A L (bc body)) (hr2 : Rd w w.heap.size A2 L2 (ic zs)) (hc : L ≤ c) (hl : L ≤ 140737488355328) (hl2 : L2 ≤ 140737488355328) (ht : EnvOk w) :
    Calls Tryd.prog 15 #[.slice A L c, .slice A2 L2 c2] w fun en w' => ∃ A' c', en = .returned (.tuple #[.slice A' bl c', .int .i64 (e : Int)]) ∧ bl ≤ c' ∧ Ow w' w.heap.size 5 (.slice A' bl c') (bc B) ∧ Below w.heap.size w w' := by
  refine (encode_at A A2 c L c2 L2 body zs w hL hL2 hr hr2 hc hl hl2 ht.1).mono ?_
  rintro en w' ⟨v, rfl, ho, hb⟩
  rw [hB] at ho
  obtain ⟨A', c', rfl, h1, _⟩ := ow_formL ho bl (by rw [bc_length]; exact hbl)
  exact ⟨A', c', by rw [he], h1, ho, hb⟩
theorem ow_rd {w : World} {base : Nat} {e : TypeId} {A : Option Addr} {n c : Nat} {xs : List Value} (h : Ow w base e (.slice A n c) xs) : Rd w w.heap.size A n xs := by
  have hl := ow_len h
  subst hl
  exact Rd.of_own h
/-- another list of blocks that stay: all of them new -/
theorem Inv.fresh {fr fr' : Frm} {w0 w : World} {base g : Nat} {r : Rdr} {vb vt vl : Value} (h : Inv fr w0 base g r vb vt vl) (hb : Below w0.heap.size w0 w) (hk : ∀ x ∈ fr', w.heap[x.1]? = some x.2) (hq : ∀ x ∈ fr', w0.heap.size ≤ x.1) : Inv fr' w base g r vb vt vl := by
  have h1 := h.far hb
  have hlt : ∀ {v : Value} {e : TypeId} {xs : List Value}, (e, v, xs) ∈ [(5, vb, bc r.body), (9, vt, sc r.trs), (5, vl, bc r.line)] → ∀ x ∈ fr', v.ownBlock ≠ some x.1 := fun hm x hx e => by
    have := ow_block_lt (h.rows.1 _ hm) _ e
    have := hq x hx
    omega
  exact ⟨h1.own, h1.ge, h1.lt, h1.rows, h1.nb, h1.nt, h1.nl, hk, fun x hx => ⟨fun e => by have := hq x hx; have := h.lt; omega, hlt (.head _) x hx, hlt (.tail _ (.head _)) x hx, hlt (.tail _ (.tail _ (.head _))) x hx⟩⟩
theorem rd_block {w w' : World} {B q o n : Nat} {xs : List Value} (h : Rd w B (some ⟨q, o, none⟩) n xs) (hq : w'.heap[q]? = w.heap[q]?) (hlt : q < w'.heap.size) : Rd w' w'.heap.size (some ⟨q, o, none⟩) n xs := by
  refine ⟨h.1, fun hn => ?_⟩
  obtain ⟨b, o', e, _, hc⟩ := h.2 hn
  cases e
  exact ⟨q, o, rfl, hlt, fun j u hu => (World.cell?_of_block hq).trans (hc j u hu)⟩
/-- a Feed of a literal -/
theorem feed_lit {fr : Frm} (base g : Nat) (r : Rdr) (vb vt vl : Value) (c L : Nat) (l : List UInt8) (w : World) (q : Nat) (hq : q = w.heap.size) (hL : l.length = L) (hI : Inv fr w base g r vb vt vl) (hlens : Lens r) (hL2 : L ≤ 281474976710656) (n : Nat) (r2 : Rdr) (hn : (goR r l 0).2 = n) (hr2 : (goR r l 0).1 = r2) (hbase : base ≤ w.heap.size) :
    Calls Tryd.prog 38 #[.pointer (some ⟨g, 0, none⟩), .slice (some ⟨q, 0, none⟩) L c] (w.alloc (.cells (bc l).toArray 5 (L, L + 1))) fun e w' => ∃ vb vt vl, e = .returned (.tuple #[.int .i64 (n : Int), .int .i64 (r2.bad : Int)]) ∧ Inv [] w' base g r2 vb vt vl ∧ Below base w w' := by
  subst hq hn hr2
  have hb := (Below.refl w.heap.size w).alloc (Nat.le_refl _) (.cells (bc l).toArray 5 (L, L + 1))
  have hnew : (w.alloc (.cells (bc l).toArray 5 (L, L + 1))).heap[w.heap.size]? = some (.cells (bc l).toArray 5 (L, L + 1)) := heap_alloc_new w _
  have hI2 : Inv [(w.heap.size, .cells (bc l).toArray 5 (L, L + 1))] (w.alloc (.cells (bc l).toArray 5 (L, L + 1))) base g r vb vt vl := hI.fresh hb (fun x hx => by
    rcases List.mem_cons.1 hx with rfl | hx
    · exact hnew
    · cases hx) (fun x hx => by
    rcases List.mem_cons.1 hx with rfl | hx
    · exact Nat.le_refl _
    · cases hx)
  have hr := rd_litM w 5 (bc l) L w.heap.size L (L + 1) rfl (by simpa using hL)
  refine (feed_at base g r vb vt vl (some ⟨w.heap.size, 0, none⟩) c L l _ hL hI2 hlens (fun w' _ hk => ?_) hL2).mono ?_
  · have h1 := hk _ (.head _)
    exact rd_block hr (h1.trans hnew.symm) (kp_lt h1)
  · rintro e w' ⟨vb', vt', vl', rfl, hi, hb'⟩
    exact ⟨vb', vt', vl', rfl, ⟨hi.own, hi.ge, hi.lt, hi.rows, hi.nb, hi.nt, hi.nl, (fun x hx => by cases hx), (fun x hx => by cases hx)⟩, (hb.mono hbase).trans hb'⟩
namespace Aw
def wikiL : List UInt8 := [52, 13, 10, 87, 105, 107, 105, 13, 10, 48, 53, 59, 120, 13, 10, 112, 101, 100, 105, 97, 13, 10, 48, 13, 10, 13, 10]
def wikiM : List UInt8 := wikiL ++ [109, 111, 114, 101]
def wikiB : List UInt8 := [87, 105, 107, 105, 112, 101, 100, 105, 97]
def wikiO : List UInt8 := [52, 13, 10, 87, 105, 107, 105, 13, 10, 53, 13, 10, 112, 101, 100, 105, 97, 13, 10, 48, 13, 10, 13, 10]
theorem d1 : (goR newR wikiM 0).2 = 27 := by decide +kernel
theorem d2 : decE (goR newR wikiM 0).1 = 0 := by decide +kernel
theorem d3 : decB (goR newR wikiM 0).1 = wikiB := by decide +kernel
theorem e1 : encE wikiB [4, 9] = 0 := by decide +kernel
theorem e2 : encR wikiB [4, 9] = wikiO := by decide +kernel
def T : List (List UInt8 × Nat × Nat) := [([103], 0, 190), ([52, 10], 1, 190), ([49, 13, 10, 97, 98], 4, 191), ([49, 48, 48, 48, 49], 4, 3), ([48, 48, 48, 48, 48, 48, 48, 48, 49], 8, 3), ([52, 13, 10, 87, 105], 5, 192)]
theorem t1 : ∀ x ∈ T, (goR newR x.1 0).2 = x.2.1 ∧ decE (goR newR x.1 0).1 = x.2.2 ∧ decB (goR newR x.1 0).1 = [] := by decide +kernel
def tabC : List Value := T.flatMap fun x => [strV x.1, .int .i64 x.2.1, .int .i64 x.2.2]
def f1 : List UInt8 := [48, 13, 10, 97, 58, 32, 98, 13, 10]
def f2 : List UInt8 := [13, 10, 120]
def r1 : Rdr := (goR newR f1 0).1
def r2 : Rdr := (goR r1 f2 0).1
theorem g1 : (goR newR f1 0).2 = 9 := by decide +kernel
theorem g2 : r1.bad = 0 := by decide +kernel
theorem g3 : (goR r1 f2 0).2 = 2 := by decide +kernel
theorem g4 : r2.bad = 0 := by decide +kernel
theorem g5 : doneB r2 = true := by decide +kernel
theorem g6 : r2.trs = [[97, 58, 32, 98]] := by decide +kernel
theorem rep : Lib.replace wikiL [48, 53, 59, 120] [53] 1 = wikiO := by decide +kernel
end Aw
end Go.Proofs.YtkjibnhihdbmdaaDoor
