/-
  append onto a slice of the call's own, with a wider bound.
-/
import Derived.Test.YtkjibnhihdbmdaaDoorBase
import Derived.Deep.DeepAppendWide
set_option linter.unusedVariables false
set_option linter.unusedSimpArgs false
namespace Go.Proofs.YtkjibnhihdbmdaaDoor
open Go.RowKit
section
variable {P : Program} (w : World)
theorem run_appW (base : Nat) (t tx ty e : TypeId) (i : TypeInfo) (z : Value) (bytes : Nat) (ht : P.underlying t = some (.slice e)) (hi : P.info? e = some i) (hz : i.zero = some z)
    (hsize : i.size = 1) (hby : i.bytes = bytes) (hzs : z.cells.size = 1) (hb1 : 1 ≤ bytes)
    (v : Value) (xs : List Value) (hown : Ow w base e v xs) (x : Value) (n : Nat) (news : List Value) (hs : Src P 1 tx x n news w)
    (hbytes : (xs.length + n + (xs.length + n) / 4 + 192) * bytes ≤ 281474976710656) (hbase : base ≤ w.heap.size) :
    ∃ v' w', (Builtin.append_ #[t, tx] ty #[v, x]).run P w = .ok v' w' ∧ Ow w' base e v' (xs ++ news) ∧ Gr w w' v v' := by
  subst hby
  have hnl : news.length = n := by simpa using hs.newsLen
  have hle : xs.length + n ≤ 281474976710656 := by
    have := Nat.le_trans (Nat.le_mul_of_pos_right _ hb1) hbytes
    omega
  have hfits : ∀ c, c < xs.length + n → Builtin.nextslicecap (xs.length + n) c * i.bytes ≤ 281474976710656 := fun c hc => growslice_fits_wide hc hbytes
  have hs' : Src P i.size tx x n news w := by rw [hsize]; exact hs
  have grown : ∀ (old : Nat), old < xs.length + n →
      Ow (w.drew.alloc (.cells ((xs ++ news).toArray ++ Builtin.zeroCells z.cells (grownCap w (xs.length + n) old e - (xs.length + n))) e)) base e
        (.slice (some ⟨w.heap.size, 0, none⟩) (xs.length + n) (grownCap w (xs.length + n) old e)) (xs ++ news) ∧
      Gr w (w.drew.alloc (.cells ((xs ++ news).toArray ++ Builtin.zeroCells z.cells (grownCap w (xs.length + n) old e - (xs.length + n))) e)) v (.slice (some ⟨w.heap.size, 0, none⟩) (xs.length + n) (grownCap w (xs.length + n) old e)) := by
    intro old ho
    have hge := grownCap_ge w (xs.length + n) old e
    have hcm : grownCap w (xs.length + n) old e ≤ maxLen := grownCap_le_maxLen w (xs.length + n) old e (by unfold maxLen; omega)
    refine ⟨⟨by simp, .inr ⟨w.heap.size, _, _, by rw [List.length_append, hnl], hbase, heap_alloc_new w.drew _, by rw [List.length_append, hnl]; exact hge, hcm, ?_, ?_⟩⟩, ⟨⟨rfl, rfl, rfl, by simp, fun k hk _ => Below.heap_alloc w.drew _ k hk⟩, fun g hg => ?_⟩⟩
    · simp only [Array.size_append, List.size_toArray, size_zeroCells, hzs, List.length_append, hnl]
      omega
    · rw [Array.toList_append, Nat.mul_one]
      exact List.take_left' (by simp)
    · simp [Value.ownBlock] at hg; omega
  rcases hown.2 with ⟨rfl, hx0⟩ | ⟨g, cap, cur, rfl, hbg, hg, hnc, hcm, hcs, htake⟩
  · have hx : xs = [] := List.eq_nil_of_length_eq_zero hx0
    subst hx
    by_cases hm : n = 0
    · subst hm
      have hn : news = [] := List.eq_nil_of_length_eq_zero hnl
      subst hn
      refine ⟨.slice none 0 0, w, ?_, Ow.nil w base e, Gr.refl _ _⟩
      rcases hs.kind with ⟨e', hk⟩ | hk <;> simp [Builtin.append_, run_underlying ht, run_underlying hk, sizeOf, typeInfo, hi, hsize, hs.len, hs.cells]
    · have hr := run_append_grow_src (P := P) w t tx ty e i z ht hi hz none 0 0 [] (run_firstCells_none w.drew _ _ _ _) x n news hs' (by omega) (by simp at hle; omega) (by have := hfits 0 (by simp; omega); simpa using this)
      have hgr := grown 0 (by simp; omega)
      simp only [List.length_nil, Nat.zero_add, List.nil_append] at hgr hr ⊢
      exact ⟨_, _, hr, hgr.1, hgr.2⟩
  · by_cases hroom : xs.length + n ≤ cap
    · have hr := run_room_row (P := P) w t tx ty e i ht hi hsize g xs.length cap cur hg x n news hs hroom (by rw [hcs, hnl]; omega)
      refine ⟨_, _, hr, ⟨by simp, .inr ⟨g, cap, _, by rw [List.length_append, hnl], hbg, setRow_heap w g cur _ e _ hg, by rw [List.length_append, hnl]; exact hroom, hcm, ?_, ?_⟩⟩, ⟨⟨rfl, rfl, rfl, by simp, fun k _ hk => setRow_other w g k _ (fun e => hk (by simp [Value.ownBlock, e]))⟩, fun k hk => .inl hk⟩⟩
      · simp only [List.size_toArray, List.length_append, List.length_take, List.length_drop, Array.length_toList]
        omega
      · rw [Nat.mul_one] at htake ⊢
        rw [htake]
        exact List.take_left' (by simp)
    · have holds : ∀ j u, xs[j]? = some u → w.cell? ((⟨g, 0, none⟩ : Addr).add j) = some u := World.ownsRow.cells hown (g := g) rfl
      have hr := run_append_grow_src (P := P) w t tx ty e i z ht hi hz (some ⟨g, 0, none⟩) xs.length cap xs (run_firstCells_some w.drew _ _ _ _ _ _ (by rw [hsize, Nat.mul_one]) (by simpa using holds)) x n news hs' (by omega) (by omega) (hfits cap (by omega))
      have hgr := grown cap (by omega)
      exact ⟨_, _, hr, hgr.1, hgr.2⟩

/-- AT THE OPERATION: behind it 'intro v1 w1 hown1 hgr1 hz1' -/
theorem wpList_appW {ops : Array Oper} {rest : List Oper} {o : Oper} {a : Act} {Q : Exit → Act → World → Prop} (hgd : o.guard = none) (s x : Operand) (t tx : TypeId)
    (ho : o.op = .call { callee := .builtin .append, args := #[s, x], argTypes := #[t, tx] })
    (base : Nat) (e : TypeId) (i : TypeInfo) (z : Value) (bytes : Nat) (ht : P.underlying t = some (.slice e)) (hi : P.info? e = some i) (hz : i.zero = some z)
    (hsize : i.size = 1) (hby : i.bytes = bytes) (hzs : z.cells.size = 1) (hb1 : 1 ≤ bytes)
    (v : Value) (xs : List Value) (hown : Ow w base e v xs) (hv : a.eval s = v) (n : Nat) (news : List Value) (hs : Src P 1 tx (a.eval x) n news w)
    (hbytes : (xs.length + n + (xs.length + n) / 4 + 192) * bytes ≤ 281474976710656) (hbase : base ≤ w.heap.size)
    (h : ∀ v' w', Ow w' base e v' (xs ++ news) → Gr w w' v v' → base ≤ w'.heap.size → wpList P ops Q rest (a.put o.dst v') w') : wpList P ops Q (o :: rest) a w := by
  refine wpList_plain hgd fun K hK => ?_
  obtain ⟨v', w', hr, h2, h3⟩ := run_appW (P := P) w base t tx o.type e i z bytes ht hi hz hsize hby hzs hb1 v xs hown _ n news hs hbytes hbase
  unfold Oper.wp execOp
  simp only [ho, resolve, invoke, builtin, Sem.run_bind, Sem.run_pure, Result.andThen_ok, List.map_toArray, List.map_cons, List.map_nil, hv, hr]
  exact hK _ _ (h v' w' h2 h3 (Nat.le_trans hbase h3.1.size))
end
end Go.Proofs.YtkjibnhihdbmdaaDoor
