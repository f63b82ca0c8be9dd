/-
  Several slices of the call's own, in different blocks.
-/
import Derived.Test.YtnfgcfljjmjmpaaTells
set_option linter.unusedVariables false
set_option linter.unusedSimpArgs false
namespace Go.Proofs.Ytnfgcfljjmjmpaa
open Go.RowKit
abbrev OwnL := List (TypeId × Value × List Value)
def Apart (x y : TypeId × Value × List Value) : Prop := ∀ q, x.2.1.ownBlock = some q → y.2.1.ownBlock ≠ some q
def Owns (w : World) (base : Nat) (l : OwnL) : Prop := (∀ x ∈ l, Ow w base x.1 x.2.1 x.2.2) ∧ l.Pairwise Apart
theorem Apart.symm {x y : TypeId × Value × List Value} (h : Apart x y) : Apart y x := fun q h1 h2 => h q h2 h1
theorem Owns.nil (w : World) (base : Nat) : Owns w base [] := ⟨fun _ h => (by cases h), List.Pairwise.nil⟩
theorem Owns.get {w : World} {base : Nat} {l : OwnL} (h : Owns w base l) {e : TypeId} {v : Value} {xs : List Value} (hx : (e, v, xs) ∈ l) : Ow w base e v xs := h.1 _ hx
theorem Owns.far {w w' : World} {base : Nat} {l : OwnL} (h : Owns w base l) (hb : Below w.heap.size w w') : Owns w' base l := ⟨fun x hx => (h.1 x hx).far hb, h.2⟩
theorem Owns.alloc {w : World} {base : Nat} {l : OwnL} (h : Owns w base l) (o : Obj) : Owns (w.alloc o) base l := ⟨fun x hx => (h.1 x hx).alloc o, h.2⟩
theorem Owns.step {w w' : World} {q base : Nat} {l : OwnL} (h : Owns w base l) (hq : w' = w.drewN q) : Owns w' base l := by subst hq; exact h
theorem Owns.perm {w : World} {base : Nat} {l l' : OwnL} (h : Owns w base l) (hp : l.Perm l') : Owns w base l' :=
  ⟨fun x hx => h.1 x (hp.mem_iff.2 hx), (hp.pairwise_iff (fun {_ _} h => Apart.symm h)).1 h.2⟩
/-- a slice without a block -/
theorem Owns.none {w : World} {base : Nat} {l : OwnL} (h : Owns w base l) (e : TypeId) : Owns w base ((e, .slice .none 0 0, []) :: l) :=
  ⟨fun x hx => by
    rcases List.mem_cons.1 hx with rfl | hx
    · exact Ow.nil _ _ _
    · exact h.1 x hx, List.pairwise_cons.2 ⟨fun y _ q h => by simp [Value.ownBlock] at h, h.2⟩⟩
/-- one more, from a call -/
theorem Owns.cons {w w' : World} {base : Nat} {l : OwnL} (h : Owns w base l) {e : TypeId} {v : Value} {xs : List Value} (hb : Below w.heap.size w w') (ho : Ow w' w.heap.size e v xs) (hB : base ≤ w.heap.size) : Owns w' base ((e, v, xs) :: l) := by
  refine ⟨fun x hx => ?_, List.pairwise_cons.2 ⟨fun y hy q h1 h2 => ?_, h.2⟩⟩
  · rcases List.mem_cons.1 hx with rfl | hx
    · exact ho.mono hB
    · exact (h.1 x hx).far hb
  · have h3 := ho.lt q h1
    have h4 := ow_block_lt (h.1 y hy) q h2
    omega
/-- an append onto the first one -/
theorem Owns.app {w w' : World} {base : Nat} {l : OwnL} {e : TypeId} {v v' : Value} {xs xs' : List Value} (h : Owns w base ((e, v, xs) :: l)) (hg : Gr w w' v v') (ho : Ow w' base e v' xs') : Owns w' base ((e, v', xs') :: l) := by
  have hp := List.pairwise_cons.1 h.2
  refine ⟨fun x hx => ?_, List.pairwise_cons.2 ⟨fun y hy q h1 h2 => ?_, hp.2⟩⟩
  · rcases List.mem_cons.1 hx with rfl | hx
    · exact ho
    · exact (h.1 x (List.mem_cons_of_mem _ hx)).kept hg (fun q h1 h2 => hp.1 x hx q h2 h1)
  · rcases hg.2 q h1 with h3 | h3
    · exact hp.1 y hy q h3 h2
    · have h4 := ow_block_lt (h.1 y (List.mem_cons_of_mem _ hy)) q h2
      omega
/-- rows of a slice of slices -/
structure Row where
  A : Option Addr
  c : Nat
  l : List (List UInt8)
def Row.v (r : Row) : Value := .slice r.A r.l.length r.c
def Row.own (r : Row) : TypeId × Value × List Value := (9, r.v, sc r.l)
theorem Try.infoRow : (Try.prog.info? 25).map (fun i => (i.zero, i.size, i.bytes)) = some (some (.slice none 0 0), 1, 24) := by kernel_rfl
/-- a slice of slices of strings that can be read -/
def RdR (w : World) (B : Nat) (A : Option Addr) (n : Nat) (rows : List Row) : Prop := Rd w B A n (rows.map Row.v) ∧ ∀ r ∈ rows, Rd w B r.A r.l.length (sc r.l) ∧ r.l.length ≤ r.c ∧ r.l.length * 16 ≤ 140737488351232 ∧ ∀ x ∈ r.l, x.length ≤ 140737488351232
theorem RdR.below {w w' : World} {B n : Nat} {A : Option Addr} {rows : List Row} (h : RdR w B A n rows) (hb : Below B w w') : RdR w' B A n rows := ⟨h.1.below hb, fun r hr => ⟨(h.2 r hr).1.below hb, (h.2 r hr).2⟩⟩
theorem RdR.pre {w : World} {B n : Nat} {A : Option Addr} {rows : List Row} (h : RdR w B A n rows) {k : Nat} (hk : k ≤ n) : RdR w B A k (rows.take k) := by
  refine ⟨?_, fun r hr => h.2 r (List.mem_of_mem_take hr)⟩
  have := h.1.pre hk
  rwa [← List.map_take] at this
set_option maxRecDepth 100000 in
set_option maxHeartbeats 400000 in
theorem bprefix_at (A1 A2 : Option Addr) (c1 c2 L1 L2 : Nat) (l m : List UInt8) (r : Bool) (w : World) (hr : decide (l.take L2 = m) = r) (h1' : l.length = L1) (h2' : m.length = L2) (hle : L2 ≤ L1) (hc : L1 ≤ c1) (h1 : Rd w w.heap.size A1 L1 (bc l)) (h2 : Rd w w.heap.size A2 L2 (bc m)) (hl : L1 ≤ 140737488355328) :
    Calls Try.prog 23 #[.slice A1 L1 c1, .slice A2 L2 c2] w fun e w' => e = .returned (.bool r) ∧ w = w' := by
  have ksl : ∀ W, (Instr.slice 22 (.slice A1 L1 c1) none (some (.int .i64 (L2 : Int))) none).run Try.prog W = .ok (.slice A1 L2 c1) W := fun W => run_sl_h W _ 5 Try.underlying22 szByte A1 L1 c1 L2 (by omega)
  have hlen : (l.take L2).length = L2 := by rw [List.length_take]; omega
  have HL := Lib.hid hlen
  have HR := Lib.hid hr
  have HM := Lib.hid h2'
  have rp := h1.preB (k := L2) hle
  have d1 : decide (L2 ≤ L1) = true := decide_eq_true hle
  clear hlen hr h1' h2'
  go_enter Try.func23, Try.ntmps23
  go_wp2_with (go_at_call 40; refine (beq_at2 A1 A2 c1 c2 L2 L2 (l.take L2) m r w HR.out HL.out HM.out rp h2).mono ?_; rintro e w1 ⟨rfl, rfl⟩)
  go_ret
  exact ⟨rfl, rfl⟩
end Go.Proofs.Ytnfgcfljjmjmpaa
