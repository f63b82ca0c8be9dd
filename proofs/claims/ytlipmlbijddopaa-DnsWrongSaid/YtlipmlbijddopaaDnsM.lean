/-
  Messages in memory.
-/
import Derived.Test.YtlipmlbijddopaaDnsT
import Derived.Test.YtlipmlbijddopaaMc
set_option linter.unusedVariables false
set_option linter.unusedSimpArgs false
namespace Go.Proofs.Ytlipmlbijddopaa
open Go.RowKit
/-- a question, a record, a message, with where its parts lie -/
structure QR where
  A : Option Addr
  c : Nat
  q : Qn
structure RR where
  A : Option Addr
  c : Nat
  dA : Option Addr
  dc : Nat
  tA : Option Addr
  tc : Nat
  r : Rc
def RR.qr (x : RR) : QR := ⟨x.A, x.c, x.r.q⟩
def QR.cells (x : QR) : List Value := [.slice x.A x.q.nm.length x.c, .int .u16 (x.q.ty : Int), .int .u16 (x.q.cl : Int)]
def RR.cells (x : RR) : List Value := [.slice x.A x.r.q.nm.length x.c, .int .u16 (x.r.q.ty : Int), .int .u16 (x.r.q.cl : Int), .int .u32 (x.r.ttl : Int), .slice x.dA x.r.d.length x.dc, .int .u16 (x.r.pr : Int), .int .u16 (x.r.we : Int), .int .u16 (x.r.po : Int), .slice x.tA x.r.tg.length x.tc]
def qcs (l : List QR) : List Value := l.flatMap QR.cells
def rcs (l : List RR) : List Value := l.flatMap RR.cells
@[simp] theorem QR.cells_length (x : QR) : x.cells.length = 3 := rfl
@[simp] theorem RR.cells_length (x : RR) : x.cells.length = 9 := rfl
theorem RR.cells_qr (x : RR) : x.cells = x.qr.cells ++ x.cells.drop 3 := rfl
theorem qcs_length (l : List QR) : (qcs l).length = l.length * 3 := by
  induction l with
  | nil => rfl
  | cons a l ih => rw [qcs, List.flatMap_cons, List.length_append, QR.cells_length, List.length_cons, ← qcs, ih]; omega
theorem rcs_length (l : List RR) : (rcs l).length = l.length * 9 := by
  induction l with
  | nil => rfl
  | cons a l ih => rw [rcs, List.flatMap_cons, List.length_append, RR.cells_length, List.length_cons, ← rcs, ih]; omega
theorem qcs_snoc (l : List QR) (x : QR) : qcs (l ++ [x]) = qcs l ++ x.cells := by simp [qcs]
theorem rcs_snoc (l : List RR) (x : RR) : rcs (l ++ [x]) = rcs l ++ x.cells := by simp [rcs]
theorem flat_get {α : Type} (f : α → List Value) (s : Nat) (hs : ∀ x, (f x).length = s) : ∀ (l : List α) (k j : Nat) (hk : k < l.length), j < s → (l.flatMap f)[k * s + j]? = (f l[k])[j]?
  | a :: l, 0, j, hk, hj => by
    rw [List.flatMap_cons, List.getElem?_append_left (by rw [hs]; omega)]
    simp
  | a :: l, k + 1, j, hk, hj => by
    rw [List.flatMap_cons, List.getElem?_append_right (by rw [hs, Nat.add_mul]; omega), hs]
    have : (k + 1) * s + j - s = k * s + j := by rw [Nat.add_mul]; omega
    rw [this, flat_get f s hs l k j (by simpa using hk) hj]
    simp
theorem qcs_get (l : List QR) (k j : Nat) (hk : k < l.length) (hj : j < 3) : (qcs l)[k * 3 + j]? = l[k].cells[j]? := flat_get QR.cells 3 QR.cells_length l k j hk hj
theorem rcs_get (l : List RR) (k j : Nat) (hk : k < l.length) (hj : j < 9) : (rcs l)[k * 9 + j]? = l[k].cells[j]? := flat_get RR.cells 9 RR.cells_length l k j hk hj
theorem qcells_one (x : QR) : ∀ u ∈ x.cells, u.oneCell' = true := by
  intro u hu
  simp [QR.cells] at hu
  rcases hu with rfl | rfl | rfl <;> rfl
theorem rcells_one (x : RR) : ∀ u ∈ x.cells, u.oneCell' = true := by
  intro u hu
  simp [RR.cells] at hu
  rcases hu with rfl | rfl | rfl | rfl | rfl | rfl | rfl | rfl | rfl <;> rfl
theorem qcs_one (l : List QR) : ∀ u ∈ qcs l, u.oneCell' = true := by
  intro u hu
  obtain ⟨x, _, h⟩ := List.mem_flatMap.1 hu
  exact qcells_one x u h
theorem rcs_one (l : List RR) : ∀ u ∈ rcs l, u.oneCell' = true := by
  intro u hu
  obtain ⟨x, _, h⟩ := List.mem_flatMap.1 hu
  exact rcells_one x u h
/-- a name's rows can be read -/
def NRd (w : World) (B : Nat) (A : Option Addr) (c : Nat) (n : List (List UInt8)) : Prop := Rd w B A n.length (sc n) ∧ n.length ≤ c ∧ sizeN n ≤ 140737488355328
def DRd (w : World) (B : Nat) (A : Option Addr) (c : Nat) (d : List UInt8) : Prop := Rd w B A d.length (bc d) ∧ d.length ≤ c ∧ d.length ≤ 140737488355328
def QRd (w : World) (B : Nat) (x : QR) : Prop := NRd w B x.A x.c x.q.nm ∧ x.q.ty < 65536 ∧ x.q.cl < 65536
def RRd (w : World) (B : Nat) (x : RR) : Prop := QRd w B x.qr ∧ DRd w B x.dA x.dc x.r.d ∧ NRd w B x.tA x.tc x.r.tg ∧ x.r.ttl < 4294967296 ∧ x.r.pr < 65536 ∧ x.r.we < 65536 ∧ x.r.po < 65536
def QsRd (w : World) (B : Nat) (A : Option Addr) (c n : Nat) (l : List QR) : Prop := Rd w B A (n * 3) (qcs l) ∧ l.length = n ∧ n ≤ c ∧ n ≤ 1000000000000 ∧ ∀ x ∈ l, QRd w B x
def RsRd (w : World) (B : Nat) (A : Option Addr) (c n : Nat) (l : List RR) : Prop := Rd w B A (n * 9) (rcs l) ∧ l.length = n ∧ n ≤ c ∧ n ≤ 1000000000000 ∧ ∀ x ∈ l, RRd w B x
structure MR where
  id : Nat
  fl : Nat
  qA : Option Addr
  qc : Nat
  qs : List QR
  aA : Option Addr
  ac : Nat
  r0 : List RR
  bA : Option Addr
  bc : Nat
  r1 : List RR
  cA : Option Addr
  cc : Nat
  r2 : List RR
def MR.cells (x : MR) : List Value := [.int .u16 (x.id : Int), .int .u16 (x.fl : Int), .slice x.qA x.qs.length x.qc, .slice x.aA x.r0.length x.ac, .slice x.bA x.r1.length x.bc, .slice x.cA x.r2.length x.cc]
def MR.m (x : MR) : Ms := ⟨x.id, x.fl, x.qs.map QR.q, x.r0.map RR.r, x.r1.map RR.r, x.r2.map RR.r⟩
def MRd (w : World) (B : Nat) (x : MR) : Prop := x.id < 65536 ∧ x.fl < 65536 ∧ QsRd w B x.qA x.qc x.qs.length x.qs ∧ RsRd w B x.aA x.ac x.r0.length x.r0 ∧ RsRd w B x.bA x.bc x.r1.length x.r1 ∧ RsRd w B x.cA x.cc x.r2.length x.r2
section
variable {w w' : World} {B B' : Nat}
theorem NRd.below {A : Option Addr} {c : Nat} {n : List (List UInt8)} (h : NRd w B A c n) (hb : Below B w w') : NRd w' B A c n := ⟨h.1.below hb, h.2⟩
theorem NRd.more {A : Option Addr} {c : Nat} {n : List (List UInt8)} (h : NRd w B A c n) (hb : B ≤ B') : NRd w B' A c n := ⟨h.1.more hb, h.2⟩
theorem DRd.below {A : Option Addr} {c : Nat} {n : List UInt8} (h : DRd w B A c n) (hb : Below B w w') : DRd w' B A c n := ⟨h.1.below hb, h.2⟩
theorem DRd.more {A : Option Addr} {c : Nat} {n : List UInt8} (h : DRd w B A c n) (hb : B ≤ B') : DRd w B' A c n := ⟨h.1.more hb, h.2⟩
theorem QRd.below {x : QR} (h : QRd w B x) (hb : Below B w w') : QRd w' B x := ⟨h.1.below hb, h.2⟩
theorem QRd.more {x : QR} (h : QRd w B x) (hb : B ≤ B') : QRd w B' x := ⟨h.1.more hb, h.2⟩
theorem RRd.below {x : RR} (h : RRd w B x) (hb : Below B w w') : RRd w' B x := ⟨h.1.below hb, h.2.1.below hb, h.2.2.1.below hb, h.2.2.2⟩
theorem RRd.more {x : RR} (h : RRd w B x) (hb : B ≤ B') : RRd w B' x := ⟨h.1.more hb, h.2.1.more hb, h.2.2.1.more hb, h.2.2.2⟩
theorem QsRd.below {A : Option Addr} {c n : Nat} {l : List QR} (h : QsRd w B A c n l) (hb : Below B w w') : QsRd w' B A c n l := ⟨h.1.below hb, h.2.1, h.2.2.1, h.2.2.2.1, fun x hx => (h.2.2.2.2 x hx).below hb⟩
theorem QsRd.more {A : Option Addr} {c n : Nat} {l : List QR} (h : QsRd w B A c n l) (hb : B ≤ B') : QsRd w B' A c n l := ⟨h.1.more hb, h.2.1, h.2.2.1, h.2.2.2.1, fun x hx => (h.2.2.2.2 x hx).more hb⟩
theorem RsRd.below {A : Option Addr} {c n : Nat} {l : List RR} (h : RsRd w B A c n l) (hb : Below B w w') : RsRd w' B A c n l := ⟨h.1.below hb, h.2.1, h.2.2.1, h.2.2.2.1, fun x hx => (h.2.2.2.2 x hx).below hb⟩
theorem RsRd.more {A : Option Addr} {c n : Nat} {l : List RR} (h : RsRd w B A c n l) (hb : B ≤ B') : RsRd w B' A c n l := ⟨h.1.more hb, h.2.1, h.2.2.1, h.2.2.2.1, fun x hx => (h.2.2.2.2 x hx).more hb⟩
theorem MRd.below {x : MR} (h : MRd w B x) (hb : Below B w w') : MRd w' B x := ⟨h.1, h.2.1, h.2.2.1.below hb, h.2.2.2.1.below hb, h.2.2.2.2.1.below hb, h.2.2.2.2.2.below hb⟩
theorem MRd.more {x : MR} (h : MRd w B x) (hb : B ≤ B') : MRd w B' x := ⟨h.1, h.2.1, h.2.2.1.more hb, h.2.2.2.1.more hb, h.2.2.2.2.1.more hb, h.2.2.2.2.2.more hb⟩
/-- the cells of one element -/
theorem QsRd.at_ {A : Option Addr} {c n : Nat} {l : List QR} (h : QsRd w B A c n l) {k : Nat} (hk : k < n) : ∃ b o, A = some ⟨b, o, none⟩ ∧ b < B ∧ ∀ hk : k < l.length, (w.cell? ⟨b, o + k * 3, none⟩ = some (.slice l[k].A l[k].q.nm.length l[k].c) ∧ w.cell? ⟨b, o + k * 3 + 1, none⟩ = some (.int .u16 (l[k].q.ty : Int)) ∧ w.cell? ⟨b, o + k * 3 + 2, none⟩ = some (.int .u16 (l[k].q.cl : Int))) := by
  obtain ⟨b, o, hA, hb, hc⟩ := h.1.2 (by omega)
  refine ⟨b, o, hA, hb, fun hl => ⟨?_, ?_, ?_⟩⟩
  · exact hc (k * 3) _ ((qcs_get l k 0 hl (by omega)).trans rfl)
  · exact hc (k * 3 + 1) _ ((qcs_get l k 1 hl (by omega)).trans rfl)
  · exact hc (k * 3 + 2) _ ((qcs_get l k 2 hl (by omega)).trans rfl)
/-- nine cells in a row -/
def Nine (w : World) (b o : Nat) (x : RR) : Prop := ∀ j u, x.cells[j]? = some u → w.cell? ⟨b, o + j, none⟩ = some u
theorem RsRd.at_ {A : Option Addr} {c n : Nat} {l : List RR} (h : RsRd w B A c n l) {k : Nat} (hk : k < n) : ∃ b o, A = some ⟨b, o, none⟩ ∧ b < B ∧ ∀ hk : k < l.length, Nine w b (o + k * 9) l[k] := by
  obtain ⟨b, o, hA, hb, hc⟩ := h.1.2 (by omega)
  refine ⟨b, o, hA, hb, fun hl j u hu => ?_⟩
  have hj : j < 9 := by
    rcases Nat.lt_or_ge j 9 with h1 | h1
    · exact h1
    · rw [List.getElem?_eq_none (by simpa using h1)] at hu; cases hu
  rw [Nat.add_assoc]
  exact hc _ u ((rcs_get l k j hl hj).trans hu)
theorem Nine.cells {b o : Nat} {x : RR} (h : Nine w b o x) :
    w.cell? ⟨b, o, none⟩ = some (.slice x.A x.r.q.nm.length x.c) ∧ w.cell? ⟨b, o + 1, none⟩ = some (.int .u16 (x.r.q.ty : Int)) ∧ w.cell? ⟨b, o + 2, none⟩ = some (.int .u16 (x.r.q.cl : Int)) ∧ w.cell? ⟨b, o + 3, none⟩ = some (.int .u32 (x.r.ttl : Int)) ∧
    w.cell? ⟨b, o + 4, none⟩ = some (.slice x.dA x.r.d.length x.dc) ∧ w.cell? ⟨b, o + 5, none⟩ = some (.int .u16 (x.r.pr : Int)) ∧ w.cell? ⟨b, o + 6, none⟩ = some (.int .u16 (x.r.we : Int)) ∧ w.cell? ⟨b, o + 7, none⟩ = some (.int .u16 (x.r.po : Int)) ∧ w.cell? ⟨b, o + 8, none⟩ = some (.slice x.tA x.r.tg.length x.tc) :=
  ⟨h 0 _ rfl, h 1 _ rfl, h 2 _ rfl, h 3 _ rfl, h 4 _ rfl, h 5 _ rfl, h 6 _ rfl, h 7 _ rfl, h 8 _ rfl⟩
end
theorem kp_lt {w : World} {g : Nat} {o : Obj} (h : w.heap[g]? = some o) : g < w.heap.size := (Array.getElem?_eq_some_iff.1 h).1
/-- a struct's variable: a block of its own with these cells -/
def Vx (w : World) (g : Nat) (e : TypeId) (cs : List Value) : Prop := w.heap[g]? = some (.cells cs.toArray e (0, 0))
section
variable {w w' : World} {g : Nat} {e : TypeId} {cs : List Value}
theorem Vx.cell (h : Vx w g e cs) (k : Nat) : w.cell? ⟨g, k, none⟩ = cs[k]? := by
  rw [cell_of_row w g k cs.toArray _ _ h]; simp
theorem Vx.free (h : Vx w g e cs) (k : Nat) : w.frozen? ⟨g, k, none⟩ = false := by
  unfold Vx at h
  simp [World.frozen?, h]
theorem Vx.lt (h : Vx w g e cs) : g < w.heap.size := kp_lt h
theorem Vx.below {B : Nat} (h : Vx w g e cs) (hb : Below B w w') (hg : g < B) : Vx w' g e cs := (hb.block g hg).trans h
theorem Vx.alloc (h : Vx w g e cs) (o : Obj) : Vx (w.alloc o) g e cs := (Below.heap_alloc w o g (kp_lt h)).trans h
theorem Vx.new (w : World) (e : TypeId) (cs : List Value) : Vx (w.alloc (.cells cs.toArray e)) w.heap.size e cs := heap_alloc_new w _
theorem Vx.set_ (h : Vx w g e cs) (k : Nat) (v : Value) : Vx (w.setCell ⟨g, k, none⟩ v) g e (cs.set k v) := by
  unfold Vx
  rw [heap_setCell_same w g k cs.toArray _ v h]
  simp
theorem Vx.setO {g' : Nat} (h : Vx w g e cs) (hn : g ≠ g') (k : Nat) (v : Value) : Vx (w.setCell ⟨g', k, none⟩ v) g e cs := (heap_setCell_other w _ g v hn).trans h
theorem Vx.row (h : Vx w g e cs) (ds : List Value) : Vx (w.setRow g ds.toArray) g e ds := setRow_heap w g cs.toArray ds.toArray _ _ h
theorem Vx.rowO {g' : Nat} (h : Vx w g e cs) (hn : g ≠ g') (ds : Array Value) : Vx (w.setRow g' ds) g e cs := (setRow_other w g' g ds hn).trans h
theorem Vx.grown {row : Option Nat} (h : Vx w g e cs) (hg : w.grownBy w' row) (hn : some g ≠ row) : Vx w' g e cs := (hg.block g h.lt hn).trans h
theorem Vx.c2 {a0 a1 : Value} (h : Vx w g e [a0, a1]) : w.cell? ⟨g, 0, none⟩ = some a0 ∧ w.cell? ⟨g, 1, none⟩ = some a1 := ⟨h.cell 0, h.cell 1⟩
theorem Vx.c3 {a0 a1 a2 : Value} (h : Vx w g e [a0, a1, a2]) : w.cell? ⟨g, 0, none⟩ = some a0 ∧ w.cell? ⟨g, 1, none⟩ = some a1 ∧ w.cell? ⟨g, 2, none⟩ = some a2 := ⟨h.cell 0, h.cell 1, h.cell 2⟩
theorem Vx.c6 {a0 a1 a2 a3 a4 a5 : Value} (h : Vx w g e [a0, a1, a2, a3, a4, a5]) : w.cell? ⟨g, 0, none⟩ = some a0 ∧ w.cell? ⟨g, 1, none⟩ = some a1 ∧ w.cell? ⟨g, 2, none⟩ = some a2 ∧ w.cell? ⟨g, 3, none⟩ = some a3 ∧ w.cell? ⟨g, 4, none⟩ = some a4 ∧ w.cell? ⟨g, 5, none⟩ = some a5 := ⟨h.cell 0, h.cell 1, h.cell 2, h.cell 3, h.cell 4, h.cell 5⟩
theorem Vx.c9 {a0 a1 a2 a3 a4 a5 a6 a7 a8 : Value} (h : Vx w g e [a0, a1, a2, a3, a4, a5, a6, a7, a8]) : w.cell? ⟨g, 0, none⟩ = some a0 ∧ w.cell? ⟨g, 1, none⟩ = some a1 ∧ w.cell? ⟨g, 2, none⟩ = some a2 ∧ w.cell? ⟨g, 3, none⟩ = some a3 ∧ w.cell? ⟨g, 4, none⟩ = some a4 ∧ w.cell? ⟨g, 5, none⟩ = some a5 ∧ w.cell? ⟨g, 6, none⟩ = some a6 ∧ w.cell? ⟨g, 7, none⟩ = some a7 ∧ w.cell? ⟨g, 8, none⟩ = some a8 := ⟨h.cell 0, h.cell 1, h.cell 2, h.cell 3, h.cell 4, h.cell 5, h.cell 6, h.cell 7, h.cell 8⟩
theorem Vx.drew (h : Vx w g e cs) : Vx w.drew g e cs := h
theorem Vx.drewN (h : Vx w g e cs) (q : Nat) : Vx (w.drewN q) g e cs := h
end
end Go.Proofs.Ytlipmlbijddopaa
