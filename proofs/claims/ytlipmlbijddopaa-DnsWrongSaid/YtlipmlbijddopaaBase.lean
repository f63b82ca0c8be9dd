/-
  Words for memory that all texts of this seat use: a slice that reads as a list (nil let in), at an address without a spot.
-/
import Derived.WalkKit
import Derived.WalkSpells
import Derived.WalkLawsBesides
import Derived.Lib.Hide
import Derived.Laws.OwnMore
import Derived.Deep.AppendLies
import Derived.Deep.Draws
import Derived.Laws.Rows
import Derived.Maps.AppendAt
import Derived.Deep.AppendSrc
import Derived.Lib.SlBytesRow
import Derived.Laws.BitsAllLaws
import Derived.Laws.IdiomStrings
import Derived.Laws.BytesArg
namespace Go.Proofs.Ytlipmlbijddopaa
open Go.RowKit

/-- the cells of a row of bytes, of strings, of ints -/
def bc (l : List UInt8) : List Value := l.map fun c => .int .u8 (c.toNat : Int)
def strV (l : List UInt8) : Value := .string ⟨l.toArray⟩
def sc (n : List (List UInt8)) : List Value := n.map strV
def ic (l : List Int) : List Value := l.map fun i => .int .i64 i

@[simp] theorem bc_length (l : List UInt8) : (bc l).length = l.length := by simp [bc]
@[simp] theorem sc_length (l : List (List UInt8)) : (sc l).length = l.length := by simp [sc]
@[simp] theorem ic_length (l : List Int) : (ic l).length = l.length := by simp [ic]
theorem bc_get (l : List UInt8) (k : Nat) (h : k < l.length) : (bc l)[k]? = some (.int .u8 (l[k].toNat : Int)) := by simp [bc, h]
theorem sc_get (l : List (List UInt8)) (k : Nat) (h : k < l.length) : (sc l)[k]? = some (.string ⟨l[k].toArray⟩) := by simp [sc, h, strV]
theorem ic_get (l : List Int) (k : Nat) (h : k < l.length) : (ic l)[k]? = some (.int .i64 l[k]) := by simp [ic, h]

theorem ret_int {k : IntKind} {a b : Int} (h : a = b) : Ending.returned (.int k a) = .returned (.int k b) := by rw [h]
theorem ret_bool {a b : Bool} (h : a = b) : Ending.returned (.bool a) = .returned (.bool b) := by rw [h]
theorem ret_t3 {v : Value} {a a' b b' : Int} (h1 : a = a') (h2 : b = b') : Ending.returned (.tuple #[v, .int .i64 a, .int .i64 b]) = .returned (.tuple #[v, .int .i64 a', .int .i64 b']) := by rw [h1, h2]
theorem ret_t2 {v : Value} {a a' : Int} (h1 : a = a') : Ending.returned (.tuple #[v, .int .i64 a]) = .returned (.tuple #[v, .int .i64 a']) := by rw [h1]
theorem ret_str {a b : List UInt8} (h : a = b) : Ending.returned (.string ⟨a.toArray⟩) = .returned (.string ⟨b.toArray⟩) := by rw [h]

/-- where a cut begins -/
def cutA (A : Option Addr) (cap k : Nat) : Option Addr := if cap = k then A else A.map (·.add k)
theorem cutA_some (b o cap k : Nat) (h : k < cap) : cutA (some ⟨b, o, none⟩) cap k = some ⟨b, o + k, none⟩ := by
  unfold cutA
  rw [if_neg (by omega)]
  by_cases h0 : k = 0
  · subst h0; rfl
  · simp [Addr.add, h0]
theorem cutA_zero (A : Option Addr) (cap : Nat) : cutA A cap 0 = A := by
  unfold cutA
  split
  · rfl
  · cases A <;> simp [Addr.add]
section
variable {P : Program} (W : World) (t e : TypeId) (ht : P.underlying t = some (.slice e)) (hz : ∀ w, (Go.sizeOf e).run P w = .ok 1 w) (A : Option Addr) (n cap : Nat)
include ht hz
theorem run_sl_lh (l h : Nat) (h1 : l ≤ h) (h2 : h ≤ cap) : (Instr.slice t (.slice A n cap) (some (.int .i64 (l : Int))) (some (.int .i64 (h : Int))) none).run P W = .ok (.slice (cutA A cap l) (h - l) (cap - l)) W := by
  have ht' : P.underlying t = some (.slice (P.elem t)) := by simp [Program.elem, ht]
  have he : P.elem t = e := by simp [Program.elem, ht]
  rw [run_slice_lh W t _ _ _ ht' .i64 .i64 _ _ (by omega) (by omega) (by omega), he, hz]
  simp [Result.andThen, sliced, cutA]
theorem run_sl_l (l : Nat) (h1 : l ≤ n) : (Instr.slice t (.slice A n cap) (some (.int .i64 (l : Int))) none none).run P W = .ok (.slice (cutA A cap l) (n - l) (cap - l)) W := by
  have ht' : P.underlying t = some (.slice (P.elem t)) := by simp [Program.elem, ht]
  have he : P.elem t = e := by simp [Program.elem, ht]
  rw [run_slice_l W t _ _ _ ht' .i64 _ (by omega) (by omega), he, hz]
  simp [Result.andThen, sliced, cutA]
theorem run_sl_h (h : Nat) (h2 : h ≤ cap) : (Instr.slice t (.slice A n cap) none (some (.int .i64 (h : Int))) none).run P W = .ok (.slice A h cap) W := by
  have ht' : P.underlying t = some (.slice (P.elem t)) := by simp [Program.elem, ht]
  have he : P.elem t = e := by simp [Program.elem, ht]
  rw [run_slice_h W t _ _ _ ht' .i64 _ (by omega) (by omega), he, hz]
  have := cutA_zero A cap
  unfold cutA at this
  simp [Result.andThen, sliced, this]
end

/-- the slice (A, n) holds the cells xs, below block B -/
def Rd (w : World) (B : Nat) (A : Option Addr) (n : Nat) (xs : List Value) : Prop :=
  xs.length = n ∧ (0 < n → ∃ b o, A = some ⟨b, o, none⟩ ∧ b < B ∧ ∀ j u, xs[j]? = some u → w.cell? ⟨b, o + j, none⟩ = some u)

section
variable {w w' : World} {B B' n : Nat} {A : Option Addr} {xs : List Value}
theorem Rd.nil (w : World) (B : Nat) (A : Option Addr) : Rd w B A 0 [] := ⟨rfl, fun h => absurd h (by omega)⟩
theorem Rd.at_ {k : Nat} (h : Rd w B A n xs) (hk : k < n) : ∃ b o, A = some ⟨b, o, none⟩ ∧ b < B ∧ ∀ j u, xs[j]? = some u → w.cell? ⟨b, o + j, none⟩ = some u := h.2 (by omega)
theorem Rd.keep (h : Rd w B A n xs) (hk : ∀ p : Addr, p.block < B → w'.cell? p = w.cell? p) : Rd w' B A n xs :=
  ⟨h.1, fun hn => by
    obtain ⟨b, o, e, hb, hc⟩ := h.2 hn
    exact ⟨b, o, e, hb, fun j u hu => (hk _ hb).trans (hc j u hu)⟩⟩
theorem Rd.more (h : Rd w B A n xs) (hB : B ≤ B') : Rd w B' A n xs :=
  ⟨h.1, fun hn => by
    obtain ⟨b, o, e, hb, hc⟩ := h.2 hn
    exact ⟨b, o, e, by omega, hc⟩⟩
theorem Rd.below (h : Rd w B A n xs) (hb : Below B w w') : Rd w' B A n xs := h.keep fun _ hp => hb.cell hp
theorem Rd.drew (h : Rd w B A n xs) : Rd w.drew B A n xs := h
theorem Rd.drewN (h : Rd w B A n xs) (k : Nat) : Rd (w.drewN k) B A n xs := h
theorem Rd.alloc (h : Rd w B A n xs) (hB : B ≤ w.heap.size) (o : Obj) : Rd (w.alloc o) B A n xs := h.keep fun p hp => World.cell?_alloc_lt w o p (by omega)
theorem Rd.setCell (h : Rd w B A n xs) {p : Addr} (hB : B ≤ p.block) (u : Value) : Rd (w.setCell p u) B A n xs :=
  h.keep fun q hq => World.cell?_setCell_other w p q u (fun e => by subst e; omega)
theorem Rd.grown (h : Rd w B A n xs) {row : Option Nat} (hg : w.grownBy w' row) (hB : B ≤ w.heap.size) (hr : ∀ g, row = some g → B ≤ g) : Rd w' B A n xs :=
  h.keep fun p hp => World.cell?_of_block (hg.block p.block (by omega) (fun e => by have := hr _ e.symm; omega))
/-- a cut [k:m] of a slice -/
theorem Rd.cut (h : Rd w B A n xs) {k m cap : Nat} (hk : k ≤ m) (hm : m ≤ n) (hc : n ≤ cap) : Rd w B (cutA A cap k) (m - k) ((xs.drop k).take (m - k)) := by
  refine ⟨by rw [List.length_take, List.length_drop, h.1]; omega, fun hn => ?_⟩
  obtain ⟨b, o, rfl, hb, hcell⟩ := h.2 (by omega)
  refine ⟨b, o + k, ?_, hb, fun j u hu => ?_⟩
  · unfold cutA
    rw [if_neg (by omega)]
    by_cases h0 : k = 0
    · subst h0; rfl
    · simp [Addr.add, h0]
  have hj : j < m - k := by
    rcases Nat.lt_or_ge j (m - k) with h1 | h1
    · exact h1
    · rw [List.getElem?_eq_none (by rw [List.length_take]; omega)] at hu; cases hu
  rw [List.getElem?_take_of_lt hj, List.getElem?_drop] at hu
  rw [Nat.add_assoc]
  exact hcell _ u hu
theorem Rd.of_own {base : Nat} {e : TypeId} {c : Nat} (h : w.ownsRow base e 1 (.slice A n c) n xs) : Rd w w.heap.size A n xs := by
  refine ⟨by simpa using h.1, fun hn => ?_⟩
  obtain ⟨g, cap, hv, _, hlt⟩ := h.form hn
  have hA : A = some ⟨g, 0, none⟩ := by injection hv
  subst hA
  refine ⟨g, 0, rfl, hlt, fun j u hu => ?_⟩
  have := h.cells (g := g) rfl j u hu
  by_cases hj : j = 0
  · subst hj; simpa [Addr.add] using this
  · simpa [Addr.add, hj] using this
end
/-- block g begins with the cells xs, none of them frozen -/
def Own (w : World) (g : Nat) (xs : List Value) : Prop :=
  ∀ j u, xs[j]? = some u → w.cell? ⟨g, j, none⟩ = some u ∧ w.frozen? ⟨g, j, none⟩ = false
theorem Own.rd {w : World} {g B : Nat} {xs : List Value} (h : Own w g xs) (hB : g < B) : Rd w B (some ⟨g, 0, none⟩) xs.length xs :=
  ⟨rfl, fun _ => ⟨g, 0, rfl, hB, fun j u hu => by rw [Nat.zero_add]; exact (h j u hu).1⟩⟩
theorem Own.set_ {w : World} {g : Nat} {xs : List Value} (h : Own w g xs) (k : Nat) (v : Value) : Own (w.setCell ⟨g, k, none⟩ v) g (xs.set k v) := by
  intro j u hu
  rw [World.frozen?_setCell]
  by_cases hj : j = k
  · subst hj
    have hlt : j < xs.length := by
      rcases Nat.lt_or_ge j xs.length with h1 | h1
      · exact h1
      · rw [List.getElem?_eq_none (by simpa using h1)] at hu; cases hu
    have h0 := h j xs[j] (by simp [hlt])
    refine ⟨?_, h0.2⟩
    rw [List.getElem?_set_self hlt] at hu
    cases hu
    exact World.cell?_setCell_same' _ _ _ (by rw [h0.1]; rfl)
  · rw [List.getElem?_set_ne (by omega)] at hu
    have h0 := h j u hu
    refine ⟨?_, h0.2⟩
    rw [World.cell?_setCell_other _ _ _ _ (by intro e; injection e; omega)]
    exact h0.1
theorem Own.below {w w' : World} {g B : Nat} {xs : List Value} (h : Own w g xs) (hb : Below B w w') (hg : g < B) : Own w' g xs := fun j u hu =>
  ⟨(hb.cell (p := ⟨g, j, none⟩) hg).trans (h j u hu).1, (hb.frozen (p := ⟨g, j, none⟩) hg).trans (h j u hu).2⟩
theorem Own.drew {w : World} {g : Nat} {xs : List Value} (h : Own w g xs) : Own w.drew g xs := h

section
variable {P : Program}
/-- '[]byte(s)' -/
theorem conv_sb (w : World) (src dst e : TypeId) (s : List UInt8) (hs : P.underlying src = some .string) (hd : P.underlying dst = some (.slice e)) (he : P.underlying e = some (.int .u8)) :
    ∃ cap w1, (convert src dst (.string ⟨s.toArray⟩)).run P w = .ok (.slice (some ⟨w.heap.size, 0, none⟩) s.length cap) w1 ∧ s.length ≤ cap ∧ Below w.heap.size w w1 ∧ w1.heap.size = w.heap.size + 1 ∧ Own w1 w.heap.size (bc s) := by
  refine ⟨_, _, run_bytes_of_string w src dst e ⟨s.toArray⟩ hs hd he, grownCap_ge w s.length 0 e, (Below.refl _ _).drew.alloc (Nat.le_refl _) _, by simp, fun j u hu => ?_⟩
  have hj : j < s.length := by
    rcases Nat.lt_or_ge j s.length with h1 | h1
    · exact h1
    · rw [List.getElem?_eq_none (by simpa using h1)] at hu; cases hu
  have hu' : u = .int .u8 (s[j].toNat : Int) := by rw [bc_get s j hj] at hu; cases hu; rfl
  subst hu'
  have hsz : w.drew.heap.size = w.heap.size := rfl
  have h1 := World.cell?_alloc_mark w.drew (bytesRow ⟨s.toArray⟩ (grownCap w s.length 0 e)) e ((bytesRow ⟨s.toArray⟩ (grownCap w s.length 0 e)).size, (bytesRow ⟨s.toArray⟩ (grownCap w s.length 0 e)).size + 1) j
  have h2 := World.frozen?_alloc_mark w.drew (bytesRow ⟨s.toArray⟩ (grownCap w s.length 0 e)) e (bytesRow ⟨s.toArray⟩ (grownCap w s.length 0 e)).size ((bytesRow ⟨s.toArray⟩ (grownCap w s.length 0 e)).size + 1) j
  rw [hsz] at h1 h2
  refine ⟨h1.trans ?_, h2.trans ?_⟩
  · rw [bytesRow_at ⟨s.toArray⟩ _ j (by simpa using hj)]; simp
  · have hz : s.length ≤ (bytesRow ⟨s.toArray⟩ (grownCap w s.length 0 e)).size := by
      unfold bytesRow; simp
    simp; omega
/-- 'string(b)' -/
theorem conv_bs (w : World) (src e dst : TypeId) (A : Option Addr) (c B : Nat) (l : List UInt8) (hs : P.underlying src = some (.slice e)) (he : P.underlying e = some (.int .u8)) (hd : P.underlying dst = some .string) (h : Rd w B A l.length (bc l)) :
    (convert src dst (.slice A l.length c)).run P w = .ok (.string ⟨l.toArray⟩) w := by
  rcases A with _ | a
  · rcases Nat.eq_zero_or_pos l.length with h0 | h0
    · have hl : l = [] := List.eq_nil_of_length_eq_zero h0
      subst hl
      exact run_convert_bytes_nil w src e hs he _ _ dst hd
    · obtain ⟨b, o, h1, _⟩ := h.2 h0; cases h1
  · refine run_convert_bytes_back w src dst e a c l hs he hd fun j hj => ?_
    obtain ⟨b, o, h1, _, h2⟩ := h.2 (by omega)
    cases h1
    have h3 := h2 j _ (bc_get l j hj)
    by_cases h0 : j = 0
    · subst h0; simpa [Addr.add] using h3
    · simpa [Addr.add, h0] using h3
end

/-! ### append, whatever is appended, onto a slice of the call's own (one cell an element) -/
/-- v is a slice of the call's own (blocks from base on) that holds xs -/
def Ow (w : World) (base : Nat) (e : TypeId) (v : Value) (xs : List Value) : Prop := w.ownsRow base e 1 v xs.length xs
/-- from (w, v) to (w', v'): only v's row and new blocks were written, and v' lies in v's row or in a new block -/
def Gr (w w' : World) (v v' : Value) : Prop := w.grownBy w' v.ownBlock ∧ ∀ g, v'.ownBlock = some g → v.ownBlock = some g ∨ w.heap.size ≤ g
theorem Gr.refl (w : World) (v : Value) : Gr w w v v := ⟨⟨rfl, rfl, rfl, Nat.le_refl _, fun _ _ _ => rfl⟩, fun _ h => .inl h⟩
theorem Gr.trans {a b c : World} {v v1 v2 : Value} (h : Gr a b v v1) (k : Gr b c v1 v2) : Gr a c v v2 := by
  refine ⟨⟨k.1.os.trans h.1.os, k.1.tape.trans h.1.tape, k.1.output.trans h.1.output, Nat.le_trans h.1.size k.1.size, fun i hi hne => ?_⟩, fun g hg => ?_⟩
  · refine (k.1.block i (Nat.lt_of_lt_of_le hi h.1.size) (fun e => ?_)).trans (h.1.block i hi hne)
    rcases h.2 i e.symm with h1 | h1
    · exact hne h1.symm
    · omega
  · rcases k.2 g hg with h1 | h1
    · exact h.2 g h1
    · exact .inr (Nat.le_trans h.1.size h1)
theorem Gr.alloc {a b : World} {v v1 : Value} (h : Gr a b v v1) (o : Obj) : Gr a (b.alloc o) v v1 :=
  ⟨⟨h.1.os, h.1.tape, h.1.output, by have := h.1.size; simp; omega, fun i hi hne => (Below.heap_alloc b o i (Nat.lt_of_lt_of_le hi h.1.size)).trans (h.1.block i hi hne)⟩, h.2⟩
theorem Gr.drew {a b : World} {v v1 : Value} (h : Gr a b v v1) : Gr a b.drew v v1 := ⟨⟨h.1.os, h.1.tape, h.1.output, h.1.size, h.1.block⟩, h.2⟩
theorem Gr.far {a b c : World} {v v1 : Value} (h : Gr a b v v1) (k : Below b.heap.size b c) : Gr a c v v1 :=
  ⟨⟨k.os.trans h.1.os, k.tape.trans h.1.tape, k.output.trans h.1.output, Nat.le_trans h.1.size k.size, fun i hi hne => (k.block i (Nat.lt_of_lt_of_le hi h.1.size)).trans (h.1.block i hi hne)⟩, h.2⟩
theorem Gr.below {a b : World} {B : Nat} {v v1 : Value} (h : Gr a b v v1) (hv : ∀ g, v.ownBlock = some g → B ≤ g) (hB : B ≤ a.heap.size) : Below B a b :=
  (Below.refl B a).grown h.1 hB hv
theorem Ow.nil (w : World) (base : Nat) (e : TypeId) : Ow w base e (.slice none 0 0) [] := World.ownsRow_nil _ _ _ _
theorem Ow.lt {w : World} {base : Nat} {e : TypeId} {v : Value} {xs : List Value} (h : Ow w base e v xs) : ∀ g, v.ownBlock = some g → base ≤ g := fun g hg => (World.ownsRow.lt h g hg).1
theorem Ow.alloc {w : World} {base : Nat} {e : TypeId} {v : Value} {xs : List Value} (h : Ow w base e v xs) (o : Obj) : Ow (w.alloc o) base e v xs := World.ownsRow.alloc h o
theorem Ow.drew {w : World} {base : Nat} {e : TypeId} {v : Value} {xs : List Value} (h : Ow w base e v xs) : Ow w.drew base e v xs := h
theorem Ow.far {w w' : World} {base : Nat} {e : TypeId} {v : Value} {xs : List Value} (h : Ow w base e v xs) (hb : Below w.heap.size w w') : Ow w' base e v xs :=
  World.ownsRow.kept (row := none) h ⟨hb.os, hb.tape, hb.output, hb.size, fun i hi _ => hb.block i hi⟩ (by cases h : v.ownBlock <;> simp)
/-- behind a write to another row -/
theorem Ow.kept {w w' : World} {base : Nat} {e : TypeId} {v v1 v1' : Value} {xs : List Value} (h : Ow w base e v xs) (hg : Gr w w' v1 v1') (hne : ∀ g, v.ownBlock = some g → v1.ownBlock ≠ some g) : Ow w' base e v xs :=
  World.ownsRow.kept h hg.1 (by
    cases hv : v.ownBlock with
    | none => exact .inl rfl
    | some g => exact .inr (fun e => hne g hv e.symm))
theorem Ow.mono {w : World} {base base' : Nat} {e : TypeId} {v : Value} {xs : List Value} (h : Ow w base e v xs) (hb : base' ≤ base) : Ow w base' e v xs := by
  refine ⟨h.1, ?_⟩
  rcases h.2 with h2 | ⟨g, cap, cur, h1, h2, h3⟩
  · exact .inl h2
  · exact .inr ⟨g, cap, cur, h1, by omega, h3⟩
theorem Ow.form {w : World} {base : Nat} {e : TypeId} {v : Value} {xs : List Value} (h : Ow w base e v xs) : ∃ A c, v = .slice A xs.length c ∧ xs.length ≤ c ∧ c ≤ maxLen ∧ Rd w w.heap.size A xs.length xs := by
  have h0 := h
  rcases h.2 with ⟨rfl, hx⟩ | ⟨g, cap, cur, rfl, _, _, h1, h2, _⟩
  · have : xs = [] := List.eq_nil_of_length_eq_zero hx
    subst this
    exact ⟨none, 0, rfl, Nat.le_refl _, by simp [maxLen], Rd.nil _ _ _⟩
  · exact ⟨_, cap, rfl, h1, h2, Rd.of_own h0⟩
theorem Rd.src {P : Program} {w : World} {B n c : Nat} {A : Option Addr} {xs : List Value} {tx e' : TypeId} (h : Rd w B A n xs) (hk : P.underlying tx = some (.slice e')) (h1 : ∀ u ∈ xs, u.oneCell' = true) : Src P 1 tx (.slice A n c) n xs w := by
  rcases Nat.eq_zero_or_pos n with h0 | h0
  · subst h0
    have : xs = [] := List.eq_nil_of_length_eq_zero h.1
    subst this
    rcases A with _ | a
    · exact Src.ofNil w hk c
    · exact Src.ofSlice w hk a 0 c [] rfl (fun j u hj => by simp at hj) h1
  · obtain ⟨b, o, rfl, _, hc⟩ := h.2 h0
    refine Src.ofSlice w hk _ n c xs (by simpa using h.1) (fun j u hj => ?_) h1
    have := hc j u hj
    by_cases hj0 : j = 0
    · subst hj0; simpa [Addr.add] using this
    · simpa [Addr.add, hj0] using this
theorem one_src {P : Program} {w : World} {tx e' e : TypeId} (hk : P.underlying tx = some (.slice e')) (u : Value) (h1 : u.oneCell' = true) : Src P 1 tx (.slice (some ⟨w.heap.size, 0, none⟩) 1 1) 1 [u] (w.alloc (.cells #[u] e)) :=
  Src.ofSlice _ hk _ 1 1 [u] rfl (cell_one_new w u e) (by simpa using h1)
theorem str_src {P : Program} {w : World} {tx : TypeId} (hk : P.underlying tx = some .string) (s : List UInt8) : Src P 1 tx (.string ⟨s.toArray⟩) s.length (bc s) w := by
  have := Src.ofString (P := P) w hk ⟨s.toArray⟩
  rw [show (⟨s.toArray⟩ : ByteArray).size = s.length from rfl] at this
  simpa [byteCells, bc] using this
theorem bc_one (l : List UInt8) : ∀ u ∈ bc l, u.oneCell' = true := by
  intro u hu
  obtain ⟨_, _, rfl⟩ := List.mem_map.1 hu
  rfl
theorem sc_one (l : List (List UInt8)) : ∀ u ∈ sc l, u.oneCell' = true := by
  intro u hu
  obtain ⟨_, _, rfl⟩ := List.mem_map.1 hu
  rfl
theorem ic_one (l : List Int) : ∀ u ∈ ic l, u.oneCell' = true := by
  intro u hu
  obtain ⟨_, _, rfl⟩ := List.mem_map.1 hu
  rfl

section
variable {P : Program} (w : World)
theorem run_room_row (t tx ty e : TypeId) (i : TypeInfo) (ht : P.underlying t = some (.slice e)) (hi : P.info? e = some i) (hsize : i.size = 1)
    (g sLen sCap : Nat) (cur : Array Value) (hg : w.heap[g]? = some (.cells cur e (0, 0))) (x : Value) (n : Nat) (news : List Value) (hs : Src P 1 tx x n news w)
    (hroom : sLen + n ≤ sCap) (hfit : sLen + news.length ≤ cur.size) :
    (Builtin.append_ #[t, tx] ty #[.slice (some ⟨g, 0, none⟩) sLen sCap, x]).run P w =
      .ok (.slice (some ⟨g, 0, none⟩) (sLen + n) sCap) (w.setRow g (cur.toList.take sLen ++ news ++ cur.toList.drop (sLen + news.length)).toArray) := by
  have hst := run_storeCells_at P g sLen e news 0 cur w hg (by simpa using hfit) hs.one
  simp only [Nat.add_zero] at hst
  rcases hs.kind with ⟨e', hk⟩ | hk <;> simp [Builtin.append_, run_underlying ht, run_underlying hk, sizeOf, typeInfo, hi, hsize, hs.len, hroom, hs.cells, Addr.add_lit, hst]

theorem run_app (base : Nat) (t tx ty e : TypeId) (i : TypeInfo) (z : Value) (bytes : Nat) (ht : P.underlying t = some (.slice e)) (hi : P.info? e = some i) (hz : i.zero = some z)
    (hsize : i.size = 1) (hby : i.bytes = bytes) (hzs : z.cells.size = 1) (hb1 : 1 ≤ bytes)
    (v : Value) (xs : List Value) (hown : Ow w base e v xs) (x : Value) (n : Nat) (news : List Value) (hs : Src P 1 tx x n news w)
    (hbytes : (xs.length + n) * bytes ≤ 140737488355328) (hbase : base ≤ w.heap.size) :
    ∃ v' w', (Builtin.append_ #[t, tx] ty #[v, x]).run P w = .ok v' w' ∧ Ow w' base e v' (xs ++ news) ∧ Gr w w' v v' := by
  subst hby
  have hnl : news.length = n := by simpa using hs.newsLen
  have hle : xs.length + n ≤ 140737488355328 := Nat.le_trans (Nat.le_mul_of_pos_right _ hb1) hbytes
  have hfits : ∀ c, c < xs.length + n → Builtin.nextslicecap (xs.length + n) c * i.bytes ≤ 281474976710656 := fun c hc => growslice_fits hc hbytes
  have hs' : Src P i.size tx x n news w := by rw [hsize]; exact hs
  have grown : ∀ (old : Nat), old < xs.length + n →
      Ow (w.drew.alloc (.cells ((xs ++ news).toArray ++ Builtin.zeroCells z.cells (grownCap w (xs.length + n) old e - (xs.length + n))) e)) base e
        (.slice (some ⟨w.heap.size, 0, none⟩) (xs.length + n) (grownCap w (xs.length + n) old e)) (xs ++ news) ∧
      Gr w (w.drew.alloc (.cells ((xs ++ news).toArray ++ Builtin.zeroCells z.cells (grownCap w (xs.length + n) old e - (xs.length + n))) e)) v (.slice (some ⟨w.heap.size, 0, none⟩) (xs.length + n) (grownCap w (xs.length + n) old e)) := by
    intro old ho
    have hge := grownCap_ge w (xs.length + n) old e
    have hcm : grownCap w (xs.length + n) old e ≤ maxLen := grownCap_le_maxLen w (xs.length + n) old e (by unfold maxLen; omega)
    refine ⟨⟨by simp, .inr ⟨w.heap.size, _, _, by rw [List.length_append, hnl], hbase, heap_alloc_new w.drew _, by rw [List.length_append, hnl]; exact hge, hcm, ?_, ?_⟩⟩, ⟨⟨rfl, rfl, rfl, by simp, fun k hk _ => Below.heap_alloc w.drew _ k hk⟩, fun g hg => ?_⟩⟩
    · simp only [Array.size_append, List.size_toArray, size_zeroCells, hzs, List.length_append, hnl]
      omega
    · rw [Array.toList_append, Nat.mul_one]
      exact List.take_left' (by simp)
    · simp [Value.ownBlock] at hg; omega
  rcases hown.2 with ⟨rfl, hx0⟩ | ⟨g, cap, cur, rfl, hbg, hg, hnc, hcm, hcs, htake⟩
  · have hx : xs = [] := List.eq_nil_of_length_eq_zero hx0
    subst hx
    by_cases hm : n = 0
    · subst hm
      have hn : news = [] := List.eq_nil_of_length_eq_zero hnl
      subst hn
      refine ⟨.slice none 0 0, w, ?_, Ow.nil w base e, Gr.refl _ _⟩
      rcases hs.kind with ⟨e', hk⟩ | hk <;> simp [Builtin.append_, run_underlying ht, run_underlying hk, sizeOf, typeInfo, hi, hsize, hs.len, hs.cells]
    · have hr := run_append_grow_src (P := P) w t tx ty e i z ht hi hz none 0 0 [] (run_firstCells_none w.drew _ _ _ _) x n news hs' (by omega) (by simp at hle; omega) (by have := hfits 0 (by simp; omega); simpa using this)
      have hgr := grown 0 (by simp; omega)
      simp only [List.length_nil, Nat.zero_add, List.nil_append] at hgr hr ⊢
      exact ⟨_, _, hr, hgr.1, hgr.2⟩
  · by_cases hroom : xs.length + n ≤ cap
    · have hr := run_room_row (P := P) w t tx ty e i ht hi hsize g xs.length cap cur hg x n news hs hroom (by rw [hcs, hnl]; omega)
      refine ⟨_, _, hr, ⟨by simp, .inr ⟨g, cap, _, by rw [List.length_append, hnl], hbg, setRow_heap w g cur _ e _ hg, by rw [List.length_append, hnl]; exact hroom, hcm, ?_, ?_⟩⟩, ⟨⟨rfl, rfl, rfl, by simp, fun k _ hk => setRow_other w g k _ (fun e => hk (by simp [Value.ownBlock, e]))⟩, fun k hk => .inl hk⟩⟩
      · simp only [List.size_toArray, List.length_append, List.length_take, List.length_drop, Array.length_toList]
        omega
      · rw [Nat.mul_one] at htake ⊢
        rw [htake]
        exact List.take_left' (by simp)
    · have holds : ∀ j u, xs[j]? = some u → w.cell? ((⟨g, 0, none⟩ : Addr).add j) = some u := World.ownsRow.cells hown (g := g) rfl
      have hr := run_append_grow_src (P := P) w t tx ty e i z ht hi hz (some ⟨g, 0, none⟩) xs.length cap xs (run_firstCells_some w.drew _ _ _ _ _ _ (by rw [hsize, Nat.mul_one]) (by simpa using holds)) x n news hs' (by omega) (by omega) (hfits cap (by omega))
      have hgr := grown cap (by omega)
      exact ⟨_, _, hr, hgr.1, hgr.2⟩

/-- AT THE OPERATION: behind it 'intro v1 w1 hown1 hgr1 hz1' -/
theorem wpList_app {ops : Array Oper} {rest : List Oper} {o : Oper} {a : Act} {Q : Exit → Act → World → Prop} (hgd : o.guard = none) (s x : Operand) (t tx : TypeId)
    (ho : o.op = .call { callee := .builtin .append, args := #[s, x], argTypes := #[t, tx] })
    (base : Nat) (e : TypeId) (i : TypeInfo) (z : Value) (bytes : Nat) (ht : P.underlying t = some (.slice e)) (hi : P.info? e = some i) (hz : i.zero = some z)
    (hsize : i.size = 1) (hby : i.bytes = bytes) (hzs : z.cells.size = 1) (hb1 : 1 ≤ bytes)
    (v : Value) (xs : List Value) (hown : Ow w base e v xs) (hv : a.eval s = v) (n : Nat) (news : List Value) (hs : Src P 1 tx (a.eval x) n news w)
    (hbytes : (xs.length + n) * bytes ≤ 140737488355328) (hbase : base ≤ w.heap.size)
    (h : ∀ v' w', Ow w' base e v' (xs ++ news) → Gr w w' v v' → base ≤ w'.heap.size → wpList P ops Q rest (a.put o.dst v') w') : wpList P ops Q (o :: rest) a w := by
  refine wpList_plain hgd fun K hK => ?_
  obtain ⟨v', w', hr, h2, h3⟩ := run_app (P := P) w base t tx o.type e i z bytes ht hi hz hsize hby hzs hb1 v xs hown _ n news hs hbytes hbase
  unfold Oper.wp execOp
  simp only [ho, resolve, invoke, builtin, Sem.run_bind, Sem.run_pure, Result.andThen_ok, List.map_toArray, List.map_cons, List.map_nil, hv, hr]
  exact hK _ _ (h v' w' h2 h3 (Nat.le_trans hbase h3.1.size))
end

theorem i64_or_nat (a b : Nat) (ha : a < 4611686018427387904) (hb : b < 4611686018427387904) : bits .or .i64 (a : Int) (b : Int) = ((a ||| b : Nat) : Int) := by
  have hx : a ||| b < 2 ^ 62 := Nat.or_lt_two_pow (by omega) (by omega)
  show IntKind.i64.wrap ((BitVec.ofInt 64 (a : Int) ||| BitVec.ofInt 64 (b : Int)).toNat : Int) = _
  rw [BitVec.toNat_or, ofInt_u64 a (by omega), ofInt_u64 b (by omega), IntKind.wrap_i64]
  omega
/-- '(c-192)<<8 | d' -/
theorem or_ptr (x y : Nat) (hx : 192 ≤ x) (hx2 : x < 256) (hy : y < 256) : bits .or .i64 (((x : Int) - 192) * 256) (y : Int) = (((x - 192) * 256 + y : Nat) : Int) := by
  have e : ((x : Int) - 192) * 256 = (((x - 192) * 256 : Nat) : Int) := by omega
  rw [e, i64_or_nat _ _ (by omega) (by omega), nat_join 8 _ _ (by omega) (by omega)]
end Go.Proofs.Ytlipmlbijddopaa
