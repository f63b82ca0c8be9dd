/-
  A reader beside what the reference read: the blocks of feeds.
-/
import Derived.Test.YtkjibnhihdbmdaaDoorChunkFed
import Derived.Test.YtkjibnhihdbmdaaDoorChunkRDe
set_option linter.unusedVariables false
set_option linter.unusedSimpArgs false
namespace Go.Proofs.YtkjibnhihdbmdaaDoor
open Go.RowKit
/-- a block that is none of the reader's -/
def Aside (g : Nat) (vb vt vl : Value) (p : Nat) : Prop := p ≠ g ∧ vb.ownBlock ≠ some p ∧ vt.ownBlock ≠ some p ∧ vl.ownBlock ≠ some p
theorem Inv.lts {w : World} {base g : Nat} {r : Rdr} {vb vt vl : Value} {fr : Frm} (h : Inv fr w base g r vb vt vl) {p : Nat} (hp : w.heap.size ≤ p) : Aside g vb vt vl p := by
  have hlt : ∀ {v : Value} {e : TypeId} {xs : List Value}, (e, v, xs) ∈ [(5, vb, bc r.body), (9, vt, sc r.trs), (5, vl, bc r.line)] → v.ownBlock ≠ some p := fun hm e => by
    have := ow_block_lt (h.rows.1 _ hm) _ e
    omega
  exact ⟨fun e => by have := h.lt; omega, hlt (.head _), hlt (.tail _ (.head _)), hlt (.tail _ (.tail _ (.head _)))⟩
theorem Inv.drewN {fr : Frm} {w : World} {base g : Nat} {r : Rdr} {vb vt vl : Value} (h : Inv fr w base g r vb vt vl) (n : Nat) : Inv fr (w.drewN n) base g r vb vt vl := ⟨h.own, h.ge, h.lt, h.rows, h.nb, h.nt, h.nl, h.kp, h.na⟩
/-- a reader whose blocks are as they were -/
theorem Inv.but {w w' : World} {base g p : Nat} {r : Rdr} {vb vt vl : Value} (h : Inv [] w base g r vb vt vl) (hs : w.heap.size ≤ w'.heap.size) (hk : ∀ q, q < w.heap.size → q ≠ p → w'.heap[q]? = w.heap[q]?) (hp : Aside g vb vt vl p) : Inv [] w' base g r vb vt vl := by
  have ho : ∀ {v : Value} {e : TypeId} {xs : List Value}, v.ownBlock ≠ some p → Ow w base e v xs → Ow w' base e v xs := fun hv h1 => ow_same h1 fun q hq => hk q (ow_block_lt h1 q hq) (fun e => hv (by rw [hq, e]))
  refine ⟨fun j u hu => ?_, h.ge, by have := h.lt; omega, ⟨fun x hx => ?_, h.rows.2⟩, h.nb, h.nt, h.nl, (fun x hx => by cases hx), (fun x hx => by cases hx)⟩
  · have h1 := h.own j u hu
    have h2 := hk g h.lt (fun e => hp.1 e.symm)
    exact ⟨(World.cell?_of_block h2).trans h1.1, by have := h1.2; simp only [World.frozen?, h2] at this ⊢; exact this⟩
  · have h1 := h.rows.1 x hx
    simp only [List.mem_cons, List.mem_nil_iff, or_false] at hx
    rcases hx with rfl | rfl | rfl
    · exact ho hp.2.1 h1
    · exact ho hp.2.2.1 h1
    · exact ho hp.2.2.2 h1
def Kp (w : World) (F : Frm) : Prop := ∀ y ∈ F, w.heap[y.1]? = some y.2
/-- what can be read as long as some blocks stay -/
def Hold (F : Frm) (A : Option Addr) (n : Nat) (xs : List Value) : Prop := ∀ w : World, Kp w F → Rd w w.heap.size A n xs
theorem kp_far {w w' : World} {F : Frm} (h : Kp w F) (hb : Below w.heap.size w w') : Kp w' F := fun y hy => (hb.block y.1 (kp_lt (h y hy))).trans (h y hy)
theorem hold_more {F F' : Frm} {A : Option Addr} {n : Nat} {xs : List Value} (h : Hold F A n xs) (hs : ∀ y ∈ F, y ∈ F') : Hold F' A n xs := fun w hk => h w fun y hy => hk y (hs y hy)
/-- an own slice, or an empty one: its block, if it has one -/
theorem owE_hold {w : World} {base : Nat} {e : TypeId} {A : Option Addr} {n c : Nat} {xs : List Value} (h : OwE w base e (.slice A n c) xs) : ∃ F : Frm, Kp w F ∧ (∀ y ∈ F, base ≤ y.1) ∧ Hold F A n xs := by
  rcases h with h | ⟨rfl, A', hv, hA⟩
  · rcases ow_obj h with ⟨hv, rfl⟩ | ⟨g, n', c', o, hv, hg, ho⟩
    · cases hv
      exact ⟨[], fun y hy => by (cases hy), fun y hy => by (cases hy), fun w' _ => Rd.nil _ _ _⟩
    · cases hv
      refine ⟨[(g, o)], fun y hy => ?_, fun y hy => ?_, fun w' hk => ?_⟩
      · rcases List.mem_cons.1 hy with rfl | hy
        · exact ho
        · cases hy
      · rcases List.mem_cons.1 hy with rfl | hy
        · exact hg
        · cases hy
      · have h1 := hk (g, o) (.head _)
        exact rd_block (ow_rd h) (h1.trans ho.symm) (kp_lt h1)
  · cases hv
    exact ⟨[], fun y hy => by (cases hy), fun y hy => by (cases hy), fun w' _ => ⟨rfl, fun h => by omega⟩⟩
/-- the reader, the reading's block gx with its slices' blocks F, and all the bytes -/
structure Fd (w : World) (base g gx : Nat) (q : Rdr) (vb vt vl va : Value) (all : List UInt8) (F : Frm) (cs : List Value) : Prop where
  inv : Inv [] w base g q vb vt vl
  bx : Bx w gx cs
  gb : base ≤ gx
  al : Ow w base 5 va (bc all)
  kp : Kp w F
  sF : ∀ y ∈ F, y.1 ≠ gx ∧ va.ownBlock ≠ some y.1 ∧ Aside g vb vt vl y.1
  sx : va.ownBlock ≠ some gx ∧ Aside g vb vt vl gx
  sa : ∀ p, va.ownBlock = some p → Aside g vb vt vl p
section
variable {w w' : World} {base g gx : Nat} {q : Rdr} {vb vt vl va : Value} {all : List UInt8} {F : Frm} {cs : List Value}
theorem Fd.far (h : Fd w base g gx q vb vt vl va all F cs) (hb : Below w.heap.size w w') : Fd w' base g gx q vb vt vl va all F cs :=
  ⟨h.inv.far hb, h.bx.below hb h.bx.lt, h.gb, h.al.far hb, kp_far h.kp hb, h.sF, h.sx, h.sa⟩
/-- more bytes -/
theorem Fd.app (h : Fd w base g gx q vb vt vl va all F cs) {va' : Value} {all' : List UInt8} (hg : Gr w w' va va') (ho : Ow w' base 5 va' (bc all')) : Fd w' base g gx q vb vt vl va' all' F cs := by
  have hk : ∀ p, p < w.heap.size → va.ownBlock ≠ some p → w'.heap[p]? = w.heap[p]? := fun p hp hn => hg.1.block p hp (Ne.symm hn)
  have hnew : ∀ p, va'.ownBlock = some p → va.ownBlock = some p ∨ w.heap.size ≤ p := hg.2
  have hi : Inv [] w' base g q vb vt vl := by
    cases hv : va.ownBlock with
    | none => exact h.inv.but (p := w.heap.size) hg.1.size (fun p hp _ => hk p hp (by rw [hv]; simp)) (h.inv.lts (Nat.le_refl _))
    | some p0 => exact h.inv.but (p := p0) hg.1.size (fun p hp hn => hk p hp (by rw [hv]; intro e; cases e; exact hn rfl)) (h.sa p0 hv)
  refine ⟨hi, (hk gx h.bx.lt h.sx.1).trans h.bx, h.gb, ho, fun y hy => (hk y.1 (kp_lt (h.kp y hy)) (h.sF y hy).2.1).trans (h.kp y hy), fun y hy => ⟨(h.sF y hy).1, fun e => ?_, (h.sF y hy).2.2⟩, ⟨fun e => ?_, h.sx.2⟩, fun p hp => ?_⟩
  · rcases hnew _ e with h1 | h1
    · exact (h.sF y hy).2.1 h1
    · have := kp_lt (h.kp y hy); omega
  · rcases hnew _ e with h1 | h1
    · exact h.sx.1 h1
    · have := h.bx.lt; omega
  · rcases hnew _ hp with h1 | h1
    · exact h.sa p h1
    · exact h.inv.lts h1
/-- other blocks for the reading's slices, all of them new -/
theorem Fd.frames (h : Fd w base g gx q vb vt vl va all F cs) (hb : Below w.heap.size w w') {F' : Frm} (hk : Kp w' F') (hn : ∀ y ∈ F', w.heap.size ≤ y.1) : Fd w' base g gx q vb vt vl va all F' cs := by
  have h1 := h.far hb
  refine ⟨h1.inv, h1.bx, h1.gb, h1.al, hk, fun y hy => ⟨fun e => ?_, fun e => ?_, h.inv.lts (hn y hy)⟩, h1.sx, h1.sa⟩
  · have := hn y hy; have := h.bx.lt; omega
  · have := hn y hy; have := ow_block_lt h.al _ e; omega
/-- one more block that stays -/
theorem Fd.more (h : Fd w base g gx q vb vt vl va all F cs) (hb : Below w.heap.size w w') {F' : Frm} (hk : Kp w' F') (hn : ∀ y ∈ F', w.heap.size ≤ y.1) : Fd w' base g gx q vb vt vl va all (F' ++ F) cs := by
  have h1 := h.far hb
  have h2 := h.frames hb hk hn
  refine ⟨h1.inv, h1.bx, h1.gb, h1.al, fun y hy => ?_, fun y hy => ?_, h1.sx, h1.sa⟩
  · rcases List.mem_append.1 hy with hy | hy
    · exact hk y hy
    · exact h1.kp y hy
  · rcases List.mem_append.1 hy with hy | hy
    · exact h2.sF y hy
    · exact h1.sF y hy
theorem Fd.less {F' : Frm} (h : Fd w base g gx q vb vt vl va all F cs) (hs : ∀ y ∈ F', y ∈ F) : Fd w base g gx q vb vt vl va all F' cs :=
  ⟨h.inv, h.bx, h.gb, h.al, fun y hy => h.kp y (hs y hy), fun y hy => h.sF y (hs y hy), h.sx, h.sa⟩
/-- a write elsewhere -/
theorem Fd.but (h : Fd w base g gx q vb vt vl va all F cs) {p : Nat} (hs : w.heap.size ≤ w'.heap.size) (hk : ∀ i, i < w.heap.size → i ≠ p → w'.heap[i]? = w.heap[i]?) (hp : Aside g vb vt vl p) (h1 : p ≠ gx) (h2 : va.ownBlock ≠ some p) (h3 : ∀ y ∈ F, y.1 ≠ p) : Fd w' base g gx q vb vt vl va all F cs :=
  ⟨h.inv.but hs hk hp, (hk gx h.bx.lt (fun e => h1 e.symm)).trans h.bx, h.gb, ow_same h.al (fun i hi => hk i (ow_block_lt h.al i hi) (fun e => h2 (by rw [hi, e]))), fun y hy => (hk y.1 (kp_lt (h.kp y hy)) (h3 y hy)).trans (h.kp y hy), h.sF, h.sx, h.sa⟩
/-- the reading is stored -/
theorem Fd.set5 (h : Fd w base g gx q vb vt vl va all F cs) (hc : cs.length = 5) (a b c d e : Value) : Fd (((((w.setCell ⟨gx, 0, none⟩ a).setCell ⟨gx, 1, none⟩ b).setCell ⟨gx, 2, none⟩ c).setCell ⟨gx, 3, none⟩ d).setCell ⟨gx, 4, none⟩ e) base g gx q vb vt vl va all F [a, b, c, d, e] := by
  have hk : ∀ i, i ≠ gx → (((((w.setCell ⟨gx, 0, none⟩ a).setCell ⟨gx, 1, none⟩ b).setCell ⟨gx, 2, none⟩ c).setCell ⟨gx, 3, none⟩ d).setCell ⟨gx, 4, none⟩ e).heap[i]? = w.heap[i]? := fun i hi => by
    rw [heap_setCell_other _ _ _ _ hi, heap_setCell_other _ _ _ _ hi, heap_setCell_other _ _ _ _ hi, heap_setCell_other _ _ _ _ hi, heap_setCell_other _ _ _ _ hi]
  refine ⟨h.inv.but (p := gx) (by simp) (fun i _ hi => hk i hi) h.sx.2, set5_bx h.bx hc _ _ _ _ _, h.gb, ow_same h.al (fun i hi => hk i (fun e => h.sx.1 (by rw [hi, e]))), fun y hy => (hk y.1 (h.sF y hy).1).trans (h.kp y hy), h.sF, h.sx, h.sa⟩
/-- a Feed -/
theorem Fd.feed (h : Fd w base g gx q vb vt vl va all F cs) (hl : Lens q) (A : Option Addr) (c L : Nat) (l : List UInt8) (hL : l.length = L) (hH : Hold F A L (bc l)) (hL2 : L ≤ 281474976710656) (n bad : Nat) (q2 : Rdr) (hq : goR q l 0 = (q2, n)) (hbad : q2.bad = bad) :
    Calls Tryd.prog 38 #[.pointer (some ⟨g, 0, none⟩), .slice A L c] w fun e w' => ∃ vb vt vl, e = .returned (.tuple #[.int .i64 (n : Int), .int .i64 (bad : Int)]) ∧ Fd w' base g gx q2 vb vt vl va all F cs ∧ Below base w w' := by
  obtain ⟨fa, hfa, hfas⟩ : ∃ fa : Frm, (∀ x ∈ fa, w.heap[x.1]? = some x.2 ∧ va.ownBlock = some x.1) ∧ ∀ p, va.ownBlock = some p → ∃ o, (p, o) ∈ fa ∧ w.heap[p]? = some o := by
    rcases ow_obj h.al with ⟨hv, _⟩ | ⟨p, n', c', o, hv, hg, ho⟩
    · refine ⟨[], fun x hx => by (cases hx), fun p hp => ?_⟩
      rw [hv] at hp; simp [Value.ownBlock] at hp
    · refine ⟨[(p, o)], fun x hx => ?_, fun p' hp => ?_⟩
      · rcases List.mem_cons.1 hx with rfl | hx
        · exact ⟨ho, by rw [hv]; rfl⟩
        · cases hx
      · have e : p' = p := by rw [hv] at hp; simpa [Value.ownBlock] using hp.symm
        subst e
        exact ⟨o, .head _, ho⟩
  have hi : Inv ((gx, .cells cs.toArray 76) :: (fa ++ F)) w base g q vb vt vl := by
    refine ⟨h.inv.own, h.inv.ge, h.inv.lt, h.inv.rows, h.inv.nb, h.inv.nt, h.inv.nl, fun x hx => ?_, fun x hx => ?_⟩
    · rcases List.mem_cons.1 hx with rfl | hx
      · exact h.bx
      · rcases List.mem_append.1 hx with hx | hx
        · exact (hfa x hx).1
        · exact h.kp x hx
    · rcases List.mem_cons.1 hx with rfl | hx
      · exact h.sx.2
      · rcases List.mem_append.1 hx with hx | hx
        · exact h.sa _ (hfa x hx).2
        · exact (h.sF x hx).2.2
  refine (feed_at base g q vb vt vl A c L l w hL hi hl (fun w' _ hk => hH w' fun y hy => hk y (List.mem_cons_of_mem _ (List.mem_append.2 (.inr hy)))) hL2).mono ?_
  rintro e w' ⟨vb', vt', vl', rfl, hi', hb'⟩
  rw [hq] at hi' ⊢
  refine ⟨vb', vt', vl', by rw [← hbad], ⟨⟨hi'.own, hi'.ge, hi'.lt, hi'.rows, hi'.nb, hi'.nt, hi'.nl, fun x hx => by (cases hx), fun x hx => by (cases hx)⟩, hi'.kp (gx, _) (.head _), h.gb, ow_same h.al fun p hp => ?_, fun y hy => hi'.kp y (List.mem_cons_of_mem _ (List.mem_append.2 (.inr hy))), fun y hy => ⟨(h.sF y hy).1, (h.sF y hy).2.1, hi'.na y (List.mem_cons_of_mem _ (List.mem_append.2 (.inr hy)))⟩, ⟨h.sx.1, hi'.na (gx, _) (.head _)⟩, fun p hp => ?_⟩, hb'⟩
  · obtain ⟨o, hm, ho⟩ := hfas p hp
    exact (hi'.kp (p, o) (List.mem_cons_of_mem _ (List.mem_append.2 (.inl hm)))).trans ho.symm
  · obtain ⟨o, hm, ho⟩ := hfas p hp
    exact hi'.na (p, o) (List.mem_cons_of_mem _ (List.mem_append.2 (.inl hm)))
/-- a new slice of the call's own beside it -/
theorem own_frames (h : Fd w base g gx q vb vt vl va all F cs) (hb : Below w.heap.size w w') {e : TypeId} {v : Value} {xs : List Value} (ho : Ow w' w.heap.size e v xs) : ∃ Fo : Frm, Fd w' base g gx q vb vt vl va all (Fo ++ F) cs ∧ (∀ w2, Kp w2 (Fo ++ F) → Ow w2 w.heap.size e v xs) ∧ ∀ p, v.ownBlock = some p → (∃ o, (p, o) ∈ Fo) ∧ ∀ y ∈ F, y.1 ≠ p := by
  rcases ow_obj ho with ⟨hv, rfl⟩ | ⟨p, n', c', o, hv, hp, hob⟩
  · subst hv
    exact ⟨[], h.far hb, fun w2 _ => Ow.nil _ _ _, fun p hp => by simp [Value.ownBlock] at hp⟩
  · subst hv
    refine ⟨[(p, o)], h.more hb (fun y hy => ?_) (fun y hy => ?_), fun w2 hk => ow_same ho fun i hi => ?_, fun i hi => ?_⟩
    · rcases List.mem_cons.1 hy with rfl | hy
      · exact hob
      · cases hy
    · rcases List.mem_cons.1 hy with rfl | hy
      · exact hp
      · cases hy
    · have e1 : i = p := by simpa [Value.ownBlock] using hi.symm
      subst e1
      exact (hk (i, o) (.head _)).trans hob.symm
    · have e1 : i = p := by simpa [Value.ownBlock] using hi.symm
      subst e1
      exact ⟨⟨o, .head _⟩, fun y hy e2 => by have := kp_lt (h.kp y hy); omega⟩
end
end Go.Proofs.YtkjibnhihdbmdaaDoor
