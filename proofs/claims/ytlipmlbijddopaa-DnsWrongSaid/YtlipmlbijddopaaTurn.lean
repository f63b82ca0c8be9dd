import Derived.Test.YtlipmlbijddopaaIter
import Derived.OrdersIn
import Derived.Deep.RegionHeld3
set_option linter.unusedVariables false
namespace Go.Proofs.Ytlipmlbijddopaa
open Go.RowKit

section
variable {P : Program} {ops : Array Oper} {Q : Exit → Act → World → Prop} {md : Region.Mode} {S : World → Prop} {l n : Nat}
theorem rows_wide {n : Nat} {row : String} {args : Array Value} {w : World} {R : Value → World → Prop} (h : Rows P row args w R) : RowsIn Fence.wide n P row args w R := by
  intro c cs _
  obtain ⟨v, w', r, s⟩ := h c cs
  exact ⟨v, w', r, stepsIn_wide.2 s⟩
theorem wpOp_round (hd : ∀ (i : Nat) (o : Oper) c, ops[i]? = some o → o.op ≠ .defer c) (hQ : ¬ LetsOut Q) {i : Nat} {K : Act → World → Prop} {a : Act} {w : World} (h : wpOp P ops Q i K a w) :
    wpOpIn (Fence.wide.inRound l) n P ops Q i K a w := by
  unfold wpOp at h
  unfold wpOpIn
  cases ho : ops[i]? with
  | none => simpa [ho] using h
  | some o =>
    simp only [ho] at h ⊢
    split
    · rename_i hw
      simp only [hw, if_true] at h
      have h := h.resolve_right (fun h => hQ h.2)
      unfold Oper.wp at h
      refine ⟨fun _ _ => trivial, ?_⟩
      rw [Oper.semAt_eq _ _ _ (fun c => hd i o c ho)]
      generalize (execOp a.eval o).run P w = r at *
      cases r with
      | ok x w' =>
        cases x <;> simp only [Oper.upon] at h <;> simp only [Oper.uponIn]
        case value u => exact h
        case skip => exact h
        case defer d => exact h
        case enter f args => exact ⟨fun e => by simp [Fence.wide] at e, CallsIn.inRound l (callsIn_wide.2 h)⟩
        case row row args => exact ⟨fun e => by simp [Fence.wide] at e, rows_wide h⟩
      | halt x w' =>
        cases x <;> simp only [Oper.upon] at h <;> simp only [Oper.uponIn]
        exact h
    · rename_i hw
      simp only [hw] at h
      exact ⟨fun _ _ => trivial, h⟩
theorem wpAny_round (hd : ∀ (i : Nat) (o : Oper) c, ops[i]? = some o → o.op ≠ .defer c) (hQ : ¬ LetsOut Q) : ∀ (fuel : Nat) (listed : Array Bool) (a : Act) (w : World), wpAny P md ops Q fuel listed a w → wpAnyIn (Fence.wide.inRound l) n P md ops Q fuel listed a w
  | 0, _, _, _, h => h
  | fuel + 1, listed, a, w, h => ⟨h.1, fun i hi => wpOpIn_mono (fun a w h => wpAny_round hd hQ fuel _ a w h) (wpOp_round hd hQ (h.2 i hi))⟩
/-- a region that draws its order, in a round, by the steps of a region outside -/
theorem region_round {id : Nat} {a : Act} {w : World} (hm : P.follows .mixedOrders = true) (hd : (ops.all fun o => match o.op with | .defer _ => false | _ => true) = true) (hQ : ¬ LetsOut Q) (hS : S w.drew)
    (h : S w.drew → wpAnyH P .any ops Q S ops.size (Array.replicate ops.size false) a w.drew) : (Code.region id ops true).wpIn (Fence.wide.inRound l) n P Q a w := by
  refine wpIn_region_any hm (wpAny_round (fun i o c ho e => ?_) hQ _ _ _ _ (wpAny_of_held _ _ _ _ (h hS)))
  have := Array.all_eq_true_iff_forall_mem.1 hd o (Array.mem_of_getElem? ho)
  simp [e] at this
end
theorem Gr.cell {w w' : World} {v v' : Value} (h : Gr w w' v v') {p : Addr} (hp : p.block < w.heap.size) (hne : ∀ g, v.ownBlock = some g → p.block ≠ g) : w'.cell? p = w.cell? p :=
  World.cell?_of_block (h.1.block p.block hp (fun e => hne _ e.symm rfl))
theorem Gr.frozen {w w' : World} {v v' : Value} (h : Gr w w' v v') {p : Addr} (hp : p.block < w.heap.size) (hne : ∀ g, v.ownBlock = some g → p.block ≠ g) : w'.frozen? p = w.frozen? p :=
  World.frozen?_of_block (h.1.block p.block hp (fun e => hne _ e.symm rfl))
theorem Rd.gr {w w' : World} {v v' : Value} (h : Gr w w' v v') {B : Nat} {A : Option Addr} {n : Nat} {xs : List Value} (hr : Rd w B A n xs) (hB : B ≤ w.heap.size) (hne : ∀ g, v.ownBlock = some g → B ≤ g) : Rd w' B A n xs :=
  hr.keep fun p hp => h.cell (by omega) (fun g hg => by have := hne g hg; omega)
/-- a turn of a block that is no cells -/
theorem Ow.turn {w w' : World} {base : Nat} {e : TypeId} {v : Value} {xs : List Value} (h : Ow w base e v xs) {row : Option Nat} (hg : w.grownBy w' row) (hr : ∀ r, row = some r → ∃ o : Obj, w.heap[r]? = some o ∧ o.isCells = false) : Ow w' base e v xs := by
  refine World.ownsRow.kept h hg ?_
  rcases h.2 with ⟨rfl, _⟩ | ⟨g, cap, cur, rfl, _, hc, _⟩
  · exact .inl rfl
  · refine .inr (fun e => ?_)
    obtain ⟨o, ho, hcells⟩ := hr g (by rw [← e]; rfl)
    rw [hc] at ho
    cases ho
    cases hcells
end Go.Proofs.Ytlipmlbijddopaa
