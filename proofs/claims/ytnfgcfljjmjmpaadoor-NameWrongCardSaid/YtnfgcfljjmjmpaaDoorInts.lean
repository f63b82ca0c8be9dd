/-
  slices.Clone and slices.Equal of ints; append into room that is known; Append of whatever name.
-/
import Derived.Test.YtnfgcfljjmjmpaaDoorRef
import Derived.Test.YtnfgcfljjmjmpaaDoorCf
import Derived.Test.YtnfgcfljjmjmpaaDoorAt
set_option linter.unusedVariables false
set_option linter.unusedSimpArgs false
namespace Go.Proofs.YtnfgcfljjmjmpaaDoor
open Go.RowKit
theorem ic_mem (l : List Int) (bl o : Nat) (w : World) (hc : ∀ j u, (ic l)[j]? = some u → w.cell? ⟨bl, o + j, none⟩ = some u) (j : Nat) (hj : j < l.length) : w.cell? ⟨bl, o + j, none⟩ = some (.int .i64 (l.getD j 0)) := by
  rw [hc j _ (ic_get l j hj)]
  simp [List.getD_eq_getElem?_getD, hj]
theorem run_mkcap (n : Nat) (hn : n ≤ 140737488355328) (W : World) : (Instr.makeSlice 28 (.int .i64 0) (.int .i64 (n : Int))).run Tryd.prog W = .ok (.slice (some ⟨W.heap.size, 0, none⟩) 0 n) (W.alloc (.cells (bc (List.replicate n 0)).toArray 5)) := by
  obtain ⟨i0, hi, hz0, hz1, hz2⟩ := info_parts Tryd.infoByte
  have := run_make (P := Tryd.prog) W 28 5 i0 (.int .u8 0) Tryd.underlying28 hi hz0 .i64 .i64 0 n (by omega) (by omega) (by rw [hz2]; omega) (by omega)
  rw [this, hz1]
  simp only [Nat.mul_one, Int.toNat_natCast]
  rw [made_bytes]; rfl
/-- append where there is room: the value and the world are known -/
theorem wpList_room {P : Program} (w : World) {ops : Array Oper} {rest : List Oper} {o : Oper} {a : Act} {Q : Exit → Act → World → Prop} (hgd : o.guard = none) (s x : Operand) (t tx : TypeId)
    (ho : o.op = .call { callee := .builtin .append, args := #[s, x], argTypes := #[t, tx] })
    (e : TypeId) (i : TypeInfo) (ht : P.underlying t = some (.slice e)) (hi : P.info? e = some i) (hsize : i.size = 1)
    (g sLen sCap : Nat) (cur : Array Value) (hg : w.heap[g]? = some (.cells cur e (0, 0))) (hv : a.eval s = .slice (some ⟨g, 0, none⟩) sLen sCap) (n : Nat) (news : List Value) (hs : Src P 1 tx (a.eval x) n news w)
    (hroom : sLen + n ≤ sCap) (hfit : sLen + news.length ≤ cur.size)
    (h : wpList P ops Q rest (a.put o.dst (.slice (some ⟨g, 0, none⟩) (sLen + n) sCap)) (w.setRow g (cur.toList.take sLen ++ news ++ cur.toList.drop (sLen + news.length)).toArray)) : wpList P ops Q (o :: rest) a w := by
  refine wpList_plain hgd fun K hK => ?_
  have hr := run_room_row (P := P) w t tx o.type e i ht hi hsize g sLen sCap cur hg _ n news hs hroom hfit
  unfold Oper.wp execOp
  simp only [ho, resolve, invoke, builtin, Sem.run_bind, Sem.run_pure, Result.andThen_ok, List.map_toArray, List.map_cons, List.map_nil, hv, hr]
  exact hK _ _ h
/-- the block g holds the cells xs and no others -/
def Whole (w : World) (g : Nat) (e : TypeId) (xs : List Value) : Prop := w.heap[g]? = some (.cells xs.toArray e (0, 0))
theorem Whole.lt {w : World} {g : Nat} {e : TypeId} {xs : List Value} (h : Whole w g e xs) : g < w.heap.size := by
  rcases Nat.lt_or_ge g w.heap.size with h1 | h1
  · exact h1
  · unfold Whole at h; rw [Array.getElem?_eq_none h1] at h; cases h
theorem Whole.below {w w' : World} {g B : Nat} {e : TypeId} {xs : List Value} (h : Whole w g e xs) (hb : Below B w w') (hg : g < B) : Whole w' g e xs := (hb.block g hg).trans h
theorem Whole.cell {w : World} {g : Nat} {e : TypeId} {xs : List Value} (h : Whole w g e xs) (j : Nat) : w.cell? ⟨g, j, none⟩ = xs[j]? := by
  unfold Whole at h
  simp [World.cell?, h]
theorem Whole.new (w : World) (e : TypeId) (xs : List Value) : Whole (w.alloc (.cells xs.toArray e)) w.heap.size e xs := heap_alloc_new w _
theorem Whole.rd {w : World} {g : Nat} {e : TypeId} {xs : List Value} (h : Whole w g e xs) (o n : Nat) (hn : o + n ≤ xs.length) : Rd w w.heap.size (some ⟨g, o, none⟩) n ((xs.drop o).take n) := by
  refine ⟨by rw [List.length_take, List.length_drop]; omega, fun h0 => ⟨g, o, rfl, h.lt, fun j u hu => ?_⟩⟩
  rw [h.cell]
  rcases Nat.lt_or_ge j n with h1 | h1
  · rwa [List.getElem?_take_of_lt h1, List.getElem?_drop] at hu
  · rw [List.getElem?_eq_none (by rw [List.length_take]; omega)] at hu; cases hu
/-- what Append returns, of whatever name -/
def appR (b : List UInt8) (known : List Int) (n : List (List UInt8)) : List UInt8 × Nat := if rightN n = true then (appN b known n, 0) else ([], 160)
section
variable (w : World)
theorem append_all (A1 A2 A3 : Option Addr) (c1 c2 c3 L1 L2 L3 : Nat) (b : List UInt8) (known : List Int) (n : List (List UInt8)) (hL1 : b.length = L1) (hL2 : known.length = L2) (hL3 : n.length = L3)
    (h1 : Rd w w.heap.size A1 L1 (bc b)) (hc1 : L1 ≤ c1) (hb : L1 ≤ 100000) (h2 : Rd w w.heap.size A2 L2 (ic known)) (hk : L2 ≤ 1000)
    (h3 : Rd w w.heap.size A3 L3 (sc n)) (hc3 : L3 ≤ c3) (hs : sizeN n ≤ 140737488355328) :
    Calls Tryd.prog 15 #[.slice A1 L1 c1, .slice A2 L2 c2, .slice A3 L3 c3] w fun e w' => ∃ v, e = .returned (.tuple #[v, .int .i64 (appR b known n).2]) ∧ Ow w' w.heap.size 5 v (bc (appR b known n).1) ∧ Below w.heap.size w w' := by
  unfold appR
  by_cases hr : rightN n = true
  · rw [if_pos hr]
    exact append_at w A1 A2 A3 c1 c2 c3 L1 L2 L3 b known n hL1 hL2 hL3 h1 hc1 hb h2 hk h3 hc3 hr
  · rw [if_neg hr]
    subst hL1 hL2 hL3
    refine (append_bad A1 A2 A3 c1 c2 c3 b known n w h3 (by simpa using hr) hs).mono ?_
    rintro e w' ⟨rfl, h⟩
    exact ⟨_, rfl, Ow.nil _ _ _, h⟩
end
end Go.Proofs.YtnfgcfljjmjmpaaDoor
