import Derived.Test.YtlipmlbijddopaaBase
set_option linter.unusedVariables false
namespace Go.Proofs.Ytlipmlbijddopaa
open Go.RowKit
theorem Ow.made (w : World) (e : TypeId) (cur : Array Value) (cap : Nat) (hm : cap ≤ maxLen) (hs : cur.size = cap) : Ow (w.alloc (.cells cur e)) w.heap.size e (.slice (some ⟨w.heap.size, 0, none⟩) 0 cap) [] :=
  World.ownsRow_made w cur cap (Nat.le_refl _) hm (by omega)
theorem Ow.lit (w : World) (e : TypeId) (cs : List Value) (hm : cs.length ≤ maxLen) : Ow (w.alloc (.cells cs.toArray e)) w.heap.size e (.slice (some ⟨w.heap.size, 0, none⟩) cs.length cs.length) cs := by
  have := World.ownsRow_lit (base := w.heap.size) (e := e) (size := 1) w cs.toArray cs.length (Nat.le_refl _) hm (by simp)
  simpa [Ow] using this

section
variable {P : Program} (w : World)
/-- append, as one step of a region that draws its order -/
theorem step_app {ops : Array Oper} {o : Oper} {a : Act} {K : Act → World → Prop} {Q : Exit → Act → World → Prop} {E : Prop} (hgd : o.guard = none) (s x : Operand) (t tx : TypeId)
    (ho : o.op = .call { callee := .builtin .append, args := #[s, x], argTypes := #[t, tx] })
    (base : Nat) (e : TypeId) (i : TypeInfo) (z : Value) (bytes : Nat) (ht : P.underlying t = some (.slice e)) (hi : P.info? e = some i) (hz : i.zero = some z)
    (hsize : i.size = 1) (hby : i.bytes = bytes) (hzs : z.cells.size = 1) (hb1 : 1 ≤ bytes)
    (v : Value) (xs : List Value) (hown : Ow w base e v xs) (hv : a.eval s = v) (xv : Value) (hx : a.eval x = xv) (n : Nat) (news : List Value) (hs : Src P 1 tx xv n news w)
    (hbytes : (xs.length + n) * bytes ≤ 140737488355328) (hbase : base ≤ w.heap.size)
    (h : ∀ v' w', Ow w' base e v' (xs ++ news) → Gr w w' v v' → base ≤ w'.heap.size → K (a.put o.dst v') w') :
    if Region.wanted o (yielded ops a.tmps) = true then Oper.wp P o a w K Q else E := by
  have hw : Region.wanted o (yielded ops a.tmps) = true := by simp [Region.wanted, hgd]
  rw [if_pos hw]
  obtain ⟨v', w', hr, h2, h3⟩ := run_app (P := P) w base t tx o.type e i z bytes ht hi hz hsize hby hzs hb1 v xs hown _ n news hs hbytes hbase
  unfold Oper.wp execOp
  simp only [ho, resolve, invoke, builtin, Sem.run_bind, Sem.run_pure, Result.andThen_ok, List.map_toArray, List.map_cons, List.map_nil, hv, hx, hr]
  exact h v' w' h2 h3 (Nat.le_trans hbase h3.1.size)
end
end Go.Proofs.Ytlipmlbijddopaa
