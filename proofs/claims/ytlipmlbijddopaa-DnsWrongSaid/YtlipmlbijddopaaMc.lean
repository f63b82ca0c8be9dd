/-
  Slices of structs: several cells an element.
-/
import Derived.Test.YtlipmlbijddopaaBase
import Derived.Test.YtlipmlbijddopaaOwnsG
set_option linter.unusedVariables false
set_option linter.unusedSimpArgs false
namespace Go.Proofs.Ytlipmlbijddopaa
open Go.RowKit
/-- v is a slice of the call's own: n elements of s cells each -/
def OwM (w : World) (base : Nat) (e : TypeId) (s : Nat) (v : Value) (n : Nat) (xs : List Value) : Prop := w.ownsRow base e s v n xs
section
variable {w w' : World} {base base' s n : Nat} {e : TypeId} {v : Value} {xs : List Value}
theorem OwM.nil (w : World) (base : Nat) (e : TypeId) (s : Nat) : OwM w base e s (.slice none 0 0) 0 [] := World.ownsRow_nil _ _ _ _
theorem OwM.lt (h : OwM w base e s v n xs) : ∀ g, v.ownBlock = some g → base ≤ g := fun g hg => (World.ownsRow.lt h g hg).1
theorem OwM.block_lt (h : OwM w base e s v n xs) : ∀ g, v.ownBlock = some g → g < w.heap.size := fun g hg => (World.ownsRow.lt h g hg).2
theorem OwM.alloc (h : OwM w base e s v n xs) (o : Obj) : OwM (w.alloc o) base e s v n xs := World.ownsRow.alloc h o
theorem OwM.drew (h : OwM w base e s v n xs) : OwM w.drew base e s v n xs := h
theorem OwM.drewN (h : OwM w base e s v n xs) (q : Nat) : OwM (w.drewN q) base e s v n xs := h
theorem OwM.len (h : OwM w base e s v n xs) : xs.length = n * s := h.1
theorem OwM.far (h : OwM w base e s v n xs) (hb : Below w.heap.size w w') : OwM w' base e s v n xs :=
  World.ownsRow.kept (row := none) h ⟨hb.os, hb.tape, hb.output, hb.size, fun i hi _ => hb.block i hi⟩ (by cases h : v.ownBlock <;> simp)
theorem OwM.kept {v1 v1' : Value} (h : OwM w base e s v n xs) (hg : Gr w w' v1 v1') (hne : ∀ g, v.ownBlock = some g → v1.ownBlock ≠ some g) : OwM w' base e s v n xs :=
  World.ownsRow.kept h hg.1 (by
    cases hv : v.ownBlock with
    | none => exact .inl rfl
    | some g => exact .inr (fun e => hne g hv e.symm))
theorem OwM.mono (h : OwM w base e s v n xs) (hb : base' ≤ base) : OwM w base' e s v n xs := by
  refine ⟨h.1, ?_⟩
  rcases h.2 with h2 | ⟨g, cap, cur, h1, h2, h3⟩
  · exact .inl h2
  · exact .inr ⟨g, cap, cur, h1, by omega, h3⟩
theorem OwM.rd {A : Option Addr} {c : Nat} (h : OwM w base e s (.slice A n c) n xs) : Rd w w.heap.size A (n * s) xs := by
  refine ⟨h.1, fun hn => ?_⟩
  have hn0 : 0 < n := Nat.pos_of_ne_zero (fun e => by subst e; simp at hn)
  obtain ⟨g, cap, hv, _, hlt⟩ := World.ownsRow.form h hn0
  have hA : A = some ⟨g, 0, none⟩ := by injection hv
  subst hA
  refine ⟨g, 0, rfl, hlt, fun j u hu => ?_⟩
  have := World.ownsRow.cells h (g := g) rfl j u hu
  by_cases hj : j = 0
  · subst hj; simpa [Addr.add] using this
  · simpa [Addr.add, hj] using this
theorem OwM.form (h : OwM w base e s v n xs) : ∃ A c, v = .slice A n c ∧ n ≤ c ∧ c ≤ maxLen ∧ Rd w w.heap.size A (n * s) xs := by
  have h0 := h
  rcases h.2 with ⟨rfl, hx⟩ | ⟨g, cap, cur, rfl, _, _, h1, h2, _⟩
  · subst hx
    have : xs = [] := List.eq_nil_of_length_eq_zero (by rw [h.1]; simp)
    subst this
    exact ⟨none, 0, rfl, Nat.le_refl _, by simp [maxLen], by rw [Nat.zero_mul]; exact Rd.nil _ _ _⟩
  · exact ⟨_, cap, rfl, h1, h2, OwM.rd h0⟩
theorem OwM.lit (w : World) (e : TypeId) (s : Nat) (cs : List Value) (n : Nat) (hs : cs.length = n * s) (hm : n ≤ maxLen) : OwM (w.alloc (.cells cs.toArray e)) w.heap.size e s (.slice (some ⟨w.heap.size, 0, none⟩) n n) n cs := by
  have := World.ownsRow_lit (base := w.heap.size) (e := e) (size := s) w cs.toArray n (Nat.le_refl _) hm (by simpa using hs)
  simpa [OwM] using this
theorem OwM.set_ {g c : Nat} (h : OwM w base e s (.slice (some ⟨g, 0, none⟩) n c) n xs) (k : Nat) (u : Value) : OwM (w.setCell ⟨g, k, none⟩ u) base e s (.slice (some ⟨g, 0, none⟩) n c) n (xs.set k u) := (World.ownsRow.stored h k u).1
theorem Rd.srcM {P : Program} {w : World} {B n c s : Nat} {A : Option Addr} {xs : List Value} {tx e' : TypeId} (h : Rd w B A (n * s) xs) (hk : P.underlying tx = some (.slice e')) (h1 : ∀ u ∈ xs, u.oneCell' = true) : Src P s tx (.slice A n c) n xs w := by
  rcases Nat.eq_zero_or_pos (n * s) with h0 | h0
  · rw [h0] at h
    have hx : xs = [] := List.eq_nil_of_length_eq_zero h.1
    subst hx
    rcases A with _ | a
    · rcases Nat.eq_zero_or_pos n with hn | hn
      · subst hn; exact Src.ofNil w hk c
      · have hs : s = 0 := by
          rcases Nat.mul_eq_zero.1 h0 with h2 | h2
          · omega
          · exact h2
        subst hs
        exact ⟨.inl ⟨e', hk⟩, fun _ => by simp [Builtin.lenOf], by simp [Builtin.firstCells], by simp [Builtin.firstCells], by simp, h1⟩
    · exact Src.ofSlice w hk a n c [] (by rw [h0]; rfl) (fun j u hj => by simp at hj) h1
  · obtain ⟨b, o, rfl, _, hc⟩ := h.2 h0
    refine Src.ofSlice w hk _ n c xs h.1 (fun j u hj => ?_) h1
    have := hc j u hj
    by_cases hj0 : j = 0
    · subst hj0; simpa [Addr.add] using this
    · simpa [Addr.add, hj0] using this
end
section
variable {P : Program} (w : World)
theorem run_room_rowM (s : Nat) (t tx ty e : TypeId) (i : TypeInfo) (ht : P.underlying t = some (.slice e)) (hi : P.info? e = some i) (hsize : i.size = s)
    (g sLen sCap : Nat) (cur : Array Value) (hg : w.heap[g]? = some (.cells cur e (0, 0))) (x : Value) (n : Nat) (news : List Value) (hs : Src P s tx x n news w)
    (hroom : sLen + n ≤ sCap) (hfit : sLen * s + news.length ≤ cur.size) :
    (Builtin.append_ #[t, tx] ty #[.slice (some ⟨g, 0, none⟩) sLen sCap, x]).run P w =
      .ok (.slice (some ⟨g, 0, none⟩) (sLen + n) sCap) (w.setRow g (cur.toList.take (sLen * s) ++ news ++ cur.toList.drop (sLen * s + news.length)).toArray) := by
  have hst := run_storeCells_at P g (sLen * s) e news 0 cur w hg (by simpa using hfit) hs.one
  simp only [Nat.add_zero] at hst
  rcases hs.kind with ⟨e', hk⟩ | hk <;> simp [Builtin.append_, run_underlying ht, run_underlying hk, sizeOf, typeInfo, hi, hsize, hs.len, hroom, hs.cells, Addr.add_lit, hst]

theorem run_appM (base s : Nat) (t tx ty e : TypeId) (i : TypeInfo) (z : Value) (bytes : Nat) (ht : P.underlying t = some (.slice e)) (hi : P.info? e = some i) (hz : i.zero = some z)
    (hsize : i.size = s) (hby : i.bytes = bytes) (hzs : z.cells.size = s) (hb1 : 1 ≤ bytes)
    (v : Value) (n0 : Nat) (xs : List Value) (hown : OwM w base e s v n0 xs) (x : Value) (n : Nat) (news : List Value) (hs : Src P s tx x n news w)
    (hbytes : (n0 + n) * bytes ≤ 140737488355328) (hbase : base ≤ w.heap.size) :
    ∃ v' w', (Builtin.append_ #[t, tx] ty #[v, x]).run P w = .ok v' w' ∧ OwM w' base e s v' (n0 + n) (xs ++ news) ∧ Gr w w' v v' := by
  subst hby
  have hnl : news.length = n * s := hs.newsLen
  have hle : n0 + n ≤ 140737488355328 := Nat.le_trans (Nat.le_mul_of_pos_right _ hb1) hbytes
  have hfits : ∀ c, c < n0 + n → Builtin.nextslicecap (n0 + n) c * i.bytes ≤ 281474976710656 := fun c hc => growslice_fits hc hbytes
  have hs' : Src P i.size tx x n news w := by rw [hsize]; exact hs
  have hxl : xs.length = n0 * s := hown.1
  have hall : (xs ++ news).length = (n0 + n) * s := by rw [List.length_append, hxl, hnl, Nat.add_mul]
  have grown : ∀ (old : Nat), old < n0 + n →
      OwM (w.drew.alloc (.cells ((xs ++ news).toArray ++ Builtin.zeroCells z.cells (grownCap w (n0 + n) old e - (n0 + n))) e)) base e s
        (.slice (some ⟨w.heap.size, 0, none⟩) (n0 + n) (grownCap w (n0 + n) old e)) (n0 + n) (xs ++ news) ∧
      Gr w (w.drew.alloc (.cells ((xs ++ news).toArray ++ Builtin.zeroCells z.cells (grownCap w (n0 + n) old e - (n0 + n))) e)) v (.slice (some ⟨w.heap.size, 0, none⟩) (n0 + n) (grownCap w (n0 + n) old e)) := by
    intro old ho
    have hge := grownCap_ge w (n0 + n) old e
    have hcm : grownCap w (n0 + n) old e ≤ maxLen := grownCap_le_maxLen w (n0 + n) old e (by unfold maxLen; omega)
    refine ⟨⟨hall, .inr ⟨w.heap.size, _, _, rfl, hbase, heap_alloc_new w.drew _, hge, hcm, ?_, ?_⟩⟩, ⟨⟨rfl, rfl, rfl, by simp, fun k hk _ => Below.heap_alloc w.drew _ k hk⟩, fun g hg => ?_⟩⟩
    · rw [Array.size_append, List.size_toArray, size_zeroCells, hzs, hall, ← Nat.add_mul]
      congr 1
      omega
    · rw [Array.toList_append]
      exact List.take_left' hall
    · simp [Value.ownBlock] at hg; omega
  rcases hown.2 with ⟨rfl, hx0⟩ | ⟨g, cap, cur, rfl, hbg, hg, hnc, hcm, hcs, htake⟩
  · subst hx0
    have hx : xs = [] := List.eq_nil_of_length_eq_zero (by rw [hxl]; simp)
    subst hx
    by_cases hm : n = 0
    · subst hm
      have hn : news = [] := List.eq_nil_of_length_eq_zero (by rw [hnl]; simp)
      subst hn
      refine ⟨.slice none 0 0, w, ?_, OwM.nil w base e s, Gr.refl _ _⟩
      rcases hs.kind with ⟨e', hk⟩ | hk <;> simp [Builtin.append_, run_underlying ht, run_underlying hk, sizeOf, typeInfo, hi, hsize, hs.len, hs.cells]
    · have hr := run_append_grow_src (P := P) w t tx ty e i z ht hi hz none 0 0 [] (run_firstCells_none w.drew _ _ _ _) x n news hs' (by omega) (by simp at hle; omega) (by have := hfits 0 (by omega); simpa using this)
      have hgr := grown 0 (by omega)
      simp only [Nat.zero_add, List.nil_append] at hgr hr ⊢
      exact ⟨_, _, hr, hgr.1, hgr.2⟩
  · by_cases hroom : n0 + n ≤ cap
    · have hfit : n0 * s + news.length ≤ cur.size := by rw [hcs, hnl, ← Nat.add_mul]; exact Nat.mul_le_mul_right _ hroom
      have hr := run_room_rowM (P := P) w s t tx ty e i ht hi hsize g n0 cap cur hg x n news hs hroom hfit
      refine ⟨_, _, hr, ⟨hall, .inr ⟨g, cap, _, rfl, hbg, setRow_heap w g cur _ e _ hg, hroom, hcm, ?_, ?_⟩⟩, ⟨⟨rfl, rfl, rfl, by simp, fun k _ hk => setRow_other w g k _ (fun e => hk (by simp [Value.ownBlock, e]))⟩, fun k hk => .inl hk⟩⟩
      · simp only [List.size_toArray, List.length_append, List.length_take, List.length_drop, Array.length_toList]
        omega
      · rw [htake]
        exact List.take_left' hall
    · have holds : ∀ j u, xs[j]? = some u → w.cell? ((⟨g, 0, none⟩ : Addr).add j) = some u := World.ownsRow.cells hown (g := g) rfl
      have hr := run_append_grow_src (P := P) w t tx ty e i z ht hi hz (some ⟨g, 0, none⟩) n0 cap xs (run_firstCells_some w.drew _ _ _ _ _ _ (by rw [hsize, hxl]) (by simpa using holds)) x n news hs' (by omega) (by omega) (hfits cap (by omega))
      have hgr := grown cap (by omega)
      exact ⟨_, _, hr, hgr.1, hgr.2⟩

/-- AT THE OPERATION: behind it 'intro v1 w1 hown1 hgr1 hz1' -/
theorem wpList_appM {ops : Array Oper} {rest : List Oper} {o : Oper} {a : Act} {Q : Exit → Act → World → Prop} (hgd : o.guard = none) (sl x : Operand) (t tx : TypeId)
    (ho : o.op = .call { callee := .builtin .append, args := #[sl, x], argTypes := #[t, tx] })
    (base s : Nat) (e : TypeId) (i : TypeInfo) (z : Value) (bytes : Nat) (ht : P.underlying t = some (.slice e)) (hi : P.info? e = some i) (hz : i.zero = some z)
    (hsize : i.size = s) (hby : i.bytes = bytes) (hzs : z.cells.size = s) (hb1 : 1 ≤ bytes)
    (v : Value) (n0 : Nat) (xs : List Value) (hown : OwM w base e s v n0 xs) (hv : a.eval sl = v) (n : Nat) (news : List Value) (hs : Src P s tx (a.eval x) n news w)
    (hbytes : (n0 + n) * bytes ≤ 140737488355328) (hbase : base ≤ w.heap.size)
    (h : ∀ v' w', OwM w' base e s v' (n0 + n) (xs ++ news) → Gr w w' v v' → base ≤ w'.heap.size → wpList P ops Q rest (a.put o.dst v') w') : wpList P ops Q (o :: rest) a w := by
  refine wpList_plain hgd fun K hK => ?_
  obtain ⟨v', w', hr, h2, h3⟩ := run_appM (P := P) w base s t tx o.type e i z bytes ht hi hz hsize hby hzs hb1 v n0 xs hown _ n news hs hbytes hbase
  unfold Oper.wp execOp
  simp only [ho, resolve, invoke, builtin, Sem.run_bind, Sem.run_pure, Result.andThen_ok, List.map_toArray, List.map_cons, List.map_nil, hv, hr]
  exact hK _ _ (h v' w' h2 h3 (Nat.le_trans hbase h3.1.size))
end
end Go.Proofs.Ytlipmlbijddopaa
