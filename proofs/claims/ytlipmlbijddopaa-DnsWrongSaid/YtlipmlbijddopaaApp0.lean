/-
  append onto a slice of the call's own, or onto an empty literal 'an empty literal' wherever that lies.
-/
import Derived.Test.YtlipmlbijddopaaB2
set_option linter.unusedVariables false
namespace Go.Proofs.Ytlipmlbijddopaa
open Go.RowKit

/-- a slice of the call's own, or an empty one without capacity -/
def OwE (w : World) (base : Nat) (e : TypeId) (v : Value) (xs : List Value) : Prop := Ow w base e v xs ∨ (xs = [] ∧ ∃ A, v = .slice A 0 0 ∧ ∀ a, A = some a → base ≤ a.block)
theorem Ow.E {w : World} {base : Nat} {e : TypeId} {v : Value} {xs : List Value} (h : Ow w base e v xs) : OwE w base e v xs := .inl h
theorem OwE.lit0 (w : World) (base : Nat) (e : TypeId) (A : Option Addr) (hA : ∀ a, A = some a → base ≤ a.block) : OwE w base e (.slice A 0 0) [] := .inr ⟨rfl, A, rfl, hA⟩
theorem OwE.lt {w : World} {base : Nat} {e : TypeId} {v : Value} {xs : List Value} (h : OwE w base e v xs) : ∀ g, v.ownBlock = some g → base ≤ g := by
  rcases h with h | ⟨_, A, rfl, hA⟩
  · exact h.lt
  · intro g hg
    rcases A with _ | a
    · simp [Value.ownBlock] at hg
    · simp [Value.ownBlock] at hg
      subst hg
      exact hA a rfl
theorem OwE.far {w w' : World} {base : Nat} {e : TypeId} {v : Value} {xs : List Value} (h : OwE w base e v xs) (hb : Below w.heap.size w w') : OwE w' base e v xs := by
  rcases h with h | h
  · exact .inl (h.far hb)
  · exact .inr h
theorem OwE.alloc {w : World} {base : Nat} {e : TypeId} {v : Value} {xs : List Value} (h : OwE w base e v xs) (o : Obj) : OwE (w.alloc o) base e v xs := by
  rcases h with h | h
  · exact .inl (h.alloc o)
  · exact .inr h
theorem OwE.drew {w : World} {base : Nat} {e : TypeId} {v : Value} {xs : List Value} (h : OwE w base e v xs) : OwE w.drew base e v xs := by
  rcases h with h | h
  · exact .inl h.drew
  · exact .inr h
theorem OwE.mono {w : World} {base base' : Nat} {e : TypeId} {v : Value} {xs : List Value} (h : OwE w base e v xs) (hb : base' ≤ base) : OwE w base' e v xs := by
  rcases h with h | ⟨h, A, hv, hA⟩
  · exact .inl (h.mono hb)
  · exact .inr ⟨h, A, hv, fun a ha => Nat.le_trans hb (hA a ha)⟩
/-- not empty: the call's own -/
theorem OwE.own {w : World} {base : Nat} {e : TypeId} {v : Value} {xs : List Value} (h : OwE w base e v xs) (hx : xs ≠ []) : Ow w base e v xs := by
  rcases h with h | h
  · exact h
  · exact absurd h.1 hx
theorem OwE.form {w : World} {base : Nat} {e : TypeId} {v : Value} {xs : List Value} (h : OwE w base e v xs) : ∃ A c, v = .slice A xs.length c ∧ xs.length ≤ c ∧ c ≤ maxLen ∧ Rd w w.heap.size A xs.length xs := by
  rcases h with h | ⟨rfl, A, rfl, hA⟩
  · exact h.form
  · exact ⟨A, 0, rfl, Nat.le_refl _, by simp [maxLen], Rd.nil _ _ _⟩
section
variable {P : Program} (w : World)
theorem run_appE (base : Nat) (t tx ty e : TypeId) (i : TypeInfo) (z : Value) (bytes : Nat) (ht : P.underlying t = some (.slice e)) (hi : P.info? e = some i) (hz : i.zero = some z)
    (hsize : i.size = 1) (hby : i.bytes = bytes) (hzs : z.cells.size = 1) (hb1 : 1 ≤ bytes)
    (v : Value) (xs : List Value) (hown : OwE w base e v xs) (x : Value) (n : Nat) (news : List Value) (hs : Src P 1 tx x n news w)
    (hbytes : (xs.length + n) * bytes ≤ 140737488355328) (hbase : base ≤ w.heap.size) :
    ∃ v' w', (Builtin.append_ #[t, tx] ty #[v, x]).run P w = .ok v' w' ∧ OwE w' base e v' (xs ++ news) ∧ Gr w w' v v' := by
  rcases hown with hown | ⟨rfl, A, rfl, hA⟩
  · obtain ⟨v', w', h1, h2, h3⟩ := run_app w base t tx ty e i z bytes ht hi hz hsize hby hzs hb1 v xs hown x n news hs hbytes hbase
    exact ⟨v', w', h1, .inl h2, h3⟩
  · subst hby
    have hnl : news.length = n := by simpa using hs.newsLen
    simp only [List.length_nil, Nat.zero_add] at hbytes
    have hle : n ≤ 140737488355328 := Nat.le_trans (Nat.le_mul_of_pos_right _ hb1) hbytes
    by_cases hm : n = 0
    · subst hm
      have hn : news = [] := List.eq_nil_of_length_eq_zero hnl
      subst hn
      refine ⟨.slice A 0 0, w, ?_, .inr ⟨rfl, A, rfl, hA⟩, Gr.refl _ _⟩
      rcases A with _ | A <;> rcases hs.kind with ⟨e', hk⟩ | hk <;> simp [Builtin.append_, run_underlying ht, run_underlying hk, sizeOf, typeInfo, hi, hsize, hs.len, hs.cells, storeCells]
    · have hs' : Src P i.size tx x n news w := by rw [hsize]; exact hs
      have hfits : Builtin.nextslicecap (0 + n) 0 * i.bytes ≤ 281474976710656 := growslice_fits (by omega) (by simpa using hbytes)
      have hr := run_append_grow_src (P := P) w t tx ty e i z ht hi hz A 0 0 [] (by cases A <;> simp [go_sem] <;> rfl) x n news hs' (by omega) (by simp; omega) hfits
      have hge := grownCap_ge w (0 + n) 0 e
      have hcm : grownCap w (0 + n) 0 e ≤ maxLen := grownCap_le_maxLen w (0 + n) 0 e (by unfold maxLen; omega)
      refine ⟨_, _, hr, .inl ⟨by simp, .inr ⟨w.heap.size, _, _, by rw [List.nil_append, hnl, Nat.zero_add], hbase, heap_alloc_new w.drew _, by rw [List.nil_append, hnl]; omega, hcm, ?_, ?_⟩⟩, ⟨⟨rfl, rfl, rfl, by simp, fun k hk _ => Below.heap_alloc w.drew _ k hk⟩, fun g hg => ?_⟩⟩
      · simp only [Array.size_append, List.size_toArray, size_zeroCells, hzs, List.nil_append, hnl]
        omega
      · rw [Array.toList_append, Nat.mul_one]
        exact List.take_left' (by simp)
      · simp [Value.ownBlock] at hg; omega
theorem step_appE {ops : Array Oper} {o : Oper} {a : Act} {K : Act → World → Prop} {Q : Exit → Act → World → Prop} {E : Prop} (hgd : o.guard = none) (s x : Operand) (t tx : TypeId)
    (ho : o.op = .call { callee := .builtin .append, args := #[s, x], argTypes := #[t, tx] })
    (base : Nat) (e : TypeId) (i : TypeInfo) (z : Value) (bytes : Nat) (ht : P.underlying t = some (.slice e)) (hi : P.info? e = some i) (hz : i.zero = some z)
    (hsize : i.size = 1) (hby : i.bytes = bytes) (hzs : z.cells.size = 1) (hb1 : 1 ≤ bytes)
    (v : Value) (xs : List Value) (hown : OwE w base e v xs) (hv : a.eval s = v) (xv : Value) (hx : a.eval x = xv) (n : Nat) (news : List Value) (hs : Src P 1 tx xv n news w)
    (hbytes : (xs.length + n) * bytes ≤ 140737488355328) (hbase : base ≤ w.heap.size)
    (h : ∀ v' w', OwE w' base e v' (xs ++ news) → Gr w w' v v' → base ≤ w'.heap.size → K (a.put o.dst v') w') :
    if Region.wanted o (yielded ops a.tmps) = true then Oper.wp P o a w K Q else E := by
  have hw : Region.wanted o (yielded ops a.tmps) = true := by simp [Region.wanted, hgd]
  rw [if_pos hw]
  obtain ⟨v', w', hr, h2, h3⟩ := run_appE (P := P) w base t tx o.type e i z bytes ht hi hz hsize hby hzs hb1 v xs hown _ n news hs hbytes hbase
  unfold Oper.wp execOp
  simp only [ho, resolve, invoke, builtin, Sem.run_bind, Sem.run_pure, Result.andThen_ok, List.map_toArray, List.map_cons, List.map_nil, hv, hx, hr]
  exact h v' w' h2 h3 (Nat.le_trans hbase h3.1.size)
/-- AT THE OPERATION: behind it 'intro v1 w1 hown1 hgr1 hz1' -/
theorem wpList_appE {ops : Array Oper} {rest : List Oper} {o : Oper} {a : Act} {Q : Exit → Act → World → Prop} (hgd : o.guard = none) (s x : Operand) (t tx : TypeId)
    (ho : o.op = .call { callee := .builtin .append, args := #[s, x], argTypes := #[t, tx] })
    (base : Nat) (e : TypeId) (i : TypeInfo) (z : Value) (bytes : Nat) (ht : P.underlying t = some (.slice e)) (hi : P.info? e = some i) (hz : i.zero = some z)
    (hsize : i.size = 1) (hby : i.bytes = bytes) (hzs : z.cells.size = 1) (hb1 : 1 ≤ bytes)
    (v : Value) (xs : List Value) (hown : OwE w base e v xs) (hv : a.eval s = v) (n : Nat) (news : List Value) (hs : Src P 1 tx (a.eval x) n news w)
    (hbytes : (xs.length + n) * bytes ≤ 140737488355328) (hbase : base ≤ w.heap.size)
    (h : ∀ v' w', OwE w' base e v' (xs ++ news) → Gr w w' v v' → base ≤ w'.heap.size → wpList P ops Q rest (a.put o.dst v') w') : wpList P ops Q (o :: rest) a w := by
  refine wpList_plain hgd fun K hK => ?_
  obtain ⟨v', w', hr, h2, h3⟩ := run_appE (P := P) w base t tx o.type e i z bytes ht hi hz hsize hby hzs hb1 v xs hown _ n news hs hbytes hbase
  unfold Oper.wp execOp
  simp only [ho, resolve, invoke, builtin, Sem.run_bind, Sem.run_pure, Result.andThen_ok, List.map_toArray, List.map_cons, List.map_nil, hv, hr]
  exact hK _ _ (h v' w' h2 h3 (Nat.le_trans hbase h3.1.size))
/-- append onto an empty literal: a new block, or nothing -/
theorem run_app0 (base : Nat) (t tx ty e : TypeId) (i : TypeInfo) (z : Value) (bytes : Nat) (ht : P.underlying t = some (.slice e)) (hi : P.info? e = some i) (hz : i.zero = some z)
    (hsize : i.size = 1) (hby : i.bytes = bytes) (hzs : z.cells.size = 1) (hb1 : 1 ≤ bytes) (A : Option Addr) (hA : ∀ a, A = some a → base ≤ a.block) (x : Value) (n : Nat) (news : List Value) (hs : Src P 1 tx x n news w)
    (hbytes : n * bytes ≤ 140737488355328) (hbase : base ≤ w.heap.size) :
    ∃ v' w', (Builtin.append_ #[t, tx] ty #[.slice A 0 0, x]).run P w = .ok v' w' ∧ OwE w' base e v' news ∧ Below w.heap.size w w' := by
  obtain ⟨v', w', h1, h2, h3⟩ := run_appE w base t tx ty e i z bytes ht hi hz hsize hby hzs hb1 (.slice A 0 0) [] (.inr ⟨rfl, A, rfl, hA⟩) x n news hs (by simpa using hbytes) hbase
  obtain ⟨v'', w'', h1', h2', h3'⟩ := run_appE w base t tx ty e i z bytes ht hi hz hsize hby hzs hb1 (.slice none 0 0) [] (.inr ⟨rfl, none, rfl, fun _ h => by cases h⟩) x n news hs (by simpa using hbytes) hbase
  have hb : w'' = w' ∨ w' = w := by
    have hnl : news.length = n := by simpa using hs.newsLen
    by_cases hm : n = 0
    · subst hm
      have hn : news = [] := List.eq_nil_of_length_eq_zero hnl
      subst hn
      right
      have : (Builtin.append_ #[t, tx] ty #[.slice A 0 0, x]).run P w = .ok (.slice A 0 0) w := by
        rcases A with _ | A <;> rcases hs.kind with ⟨e', hk⟩ | hk <;> simp [Builtin.append_, run_underlying ht, run_underlying hk, sizeOf, typeInfo, hi, hsize, hs.len, hs.cells, storeCells]
      rw [this] at h1
      injection h1 with _ h; exact h.symm
    · left
      subst hby
      have hle : n ≤ 140737488355328 := Nat.le_trans (Nat.le_mul_of_pos_right _ hb1) hbytes
      have hs' : Src P i.size tx x n news w := by rw [hsize]; exact hs
      have hfits : Builtin.nextslicecap (0 + n) 0 * i.bytes ≤ 281474976710656 := growslice_fits (by omega) (by simpa using hbytes)
      have hr := fun A : Option Addr => run_append_grow_src (P := P) w t tx ty e i z ht hi hz A 0 0 [] (by cases A <;> simp [go_sem] <;> rfl) x n news hs' (by omega) (by simp; omega) hfits
      rw [hr A] at h1
      rw [hr none] at h1'
      injection h1 with _ h
      injection h1' with _ h'
      rw [← h, ← h']
  refine ⟨v', w', h1, h2, ?_⟩
  rcases hb with rfl | rfl
  · exact h3'.below (by simp [Value.ownBlock]) (Nat.le_refl _)
  · exact Below.refl _ _
theorem step_app0 {ops : Array Oper} {o : Oper} {a : Act} {K : Act → World → Prop} {Q : Exit → Act → World → Prop} {E : Prop} (hgd : o.guard = none) (s x : Operand) (t tx : TypeId)
    (ho : o.op = .call { callee := .builtin .append, args := #[s, x], argTypes := #[t, tx] })
    (base : Nat) (e : TypeId) (i : TypeInfo) (z : Value) (bytes : Nat) (ht : P.underlying t = some (.slice e)) (hi : P.info? e = some i) (hz : i.zero = some z)
    (hsize : i.size = 1) (hby : i.bytes = bytes) (hzs : z.cells.size = 1) (hb1 : 1 ≤ bytes) (hv : ∃ A, a.eval s = .slice A 0 0 ∧ ∀ q, A = some q → base ≤ q.block) (xv : Value) (hx : a.eval x = xv) (n : Nat) (news : List Value) (hs : Src P 1 tx xv n news w)
    (hbytes : n * bytes ≤ 140737488355328) (hbase : base ≤ w.heap.size)
    (h : ∀ v' w', OwE w' base e v' news → Below w.heap.size w w' → base ≤ w'.heap.size → K (a.put o.dst v') w') :
    if Region.wanted o (yielded ops a.tmps) = true then Oper.wp P o a w K Q else E := by
  have hw : Region.wanted o (yielded ops a.tmps) = true := by simp [Region.wanted, hgd]
  rw [if_pos hw]
  obtain ⟨A, hv, hA⟩ := hv
  obtain ⟨v', w', hr, h2, h3⟩ := run_app0 (P := P) w base t tx o.type e i z bytes ht hi hz hsize hby hzs hb1 A hA _ n news hs hbytes hbase
  unfold Oper.wp execOp
  simp only [ho, resolve, invoke, builtin, Sem.run_bind, Sem.run_pure, Result.andThen_ok, List.map_toArray, List.map_cons, List.map_nil, hv, hx, hr]
  exact h v' w' h2 h3 (Nat.le_trans hbase h3.size)
end
theorem keep_alloc {wr W : World} (h : Below wr.heap.size wr W) (o : Obj) : Below wr.heap.size wr (W.alloc o) := h.alloc h.size _
theorem keep_alloc_drew {wr W : World} (h : Below wr.heap.size wr W.drew) (o : Obj) : Below wr.heap.size wr (W.alloc o).drew := ((show Below wr.heap.size wr W from ⟨h.os, h.tape, h.output, h.size, h.block⟩).alloc h.size o).drew
theorem keep_drew {wr W : World} (h : Below wr.heap.size wr W) : Below wr.heap.size wr W.drew := h.drew
theorem cell_new1 (W : World) (v : Value) (t : TypeId) : (W.alloc (.cells #[v] t)).cell? ⟨W.heap.size, 0, none⟩ = some v := by
  have := World.cell?_alloc_mark W #[v] t (0, 0) 0
  exact this.trans rfl
theorem src_one_at {P : Program} {w : World} {tx e' : TypeId} (hk : P.underlying tx = some (.slice e')) (g c : Nat) {u : Value} (h1 : w.cell? ⟨g, 0, none⟩ = some u) (o1 : u.oneCell' = true) : Src P 1 tx (.slice (some ⟨g, 0, none⟩) 1 c) 1 [u] w :=
  Src.ofSlice w hk _ 1 c [u] rfl (fun j x hj => by
    rcases j with _ | j
    · simp at hj; subst hj; exact h1
    · simp at hj) (by simpa using o1)
end Go.Proofs.Ytlipmlbijddopaa
