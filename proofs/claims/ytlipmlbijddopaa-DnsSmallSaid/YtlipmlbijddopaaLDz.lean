/-
  DnsS1; DnsSmall; LDnsSl
-/
import Derived.Test.YtlipmlbijddopaaDz1
import Derived.Test.YtlipmlbijddopaaFrame
set_option linter.unusedVariables false
set_option linter.unusedSimpArgs false
namespace Go.Proofs.Ytlipmlbijddopaa
open Go.RowKit
namespace Ds
theorem run_sl_hm {P : Program} (W : World) (t e : TypeId) (s : Nat) (ht : P.underlying t = some (.slice e)) (hz : ∀ w, (Go.sizeOf e).run P w = .ok s w) (A : Option Addr) (n cap : Nat) (h : Nat) (h2 : h ≤ cap) : (Instr.slice t (.slice A n cap) none (some (.int .i64 (h : Int))) (some (.int .i64 (h : Int)))).run P W = .ok (.slice A h h) W := by
  have ht' : P.underlying t = some (.slice (P.elem t)) := by simp [Program.elem, ht]
  have he : P.elem t = e := by simp [Program.elem, ht]
  rw [run_slice_hm W t _ _ _ ht' .i64 .i64 _ _ (by omega) (by omega) (by omega), he, hz]
  have := cutA_zero A h
  unfold cutA at this
  simp [Result.andThen, sliced, this]
section
variable {P : Program} (w : World)
theorem run_appG (B s : Nat) (t tx ty e : TypeId) (i : TypeInfo) (z : Value) (bytes : Nat) (ht : P.underlying t = some (.slice e)) (hi : P.info? e = some i) (hz : i.zero = some z)
    (hsize : i.size = s) (hby : i.bytes = bytes) (hzs : z.cells.size = s) (hb1 : 1 ≤ bytes) (hs1 : 1 ≤ s)
    (A : Option Addr) (n0 : Nat) (xs : List Value) (h : Rd w B A (n0 * s) xs) (x : Value) (n : Nat) (news : List Value) (hs : Src P s tx x n news w) (hn : 0 < n)
    (hbytes : (n0 + n) * bytes ≤ 140737488355328) :
    ∃ v' w', (Builtin.append_ #[t, tx] ty #[.slice A n0 n0, x]).run P w = .ok v' w' ∧ OwM w' w.heap.size e s v' (n0 + n) (xs ++ news) ∧ Below w.heap.size w w' := by
  subst hby
  have hnl : news.length = n * s := hs.newsLen
  have hle : n0 + n ≤ 140737488355328 := Nat.le_trans (Nat.le_mul_of_pos_right _ hb1) hbytes
  have hfits : ∀ c, c < n0 + n → Builtin.nextslicecap (n0 + n) c * i.bytes ≤ 281474976710656 := fun c hc => growslice_fits hc hbytes
  have hs' : Src P i.size tx x n news w := by rw [hsize]; exact hs
  have hxl : xs.length = n0 * s := h.1
  have hall : (xs ++ news).length = (n0 + n) * s := by rw [List.length_append, hxl, hnl, Nat.add_mul]
  have grown : OwM (w.drew.alloc (.cells ((xs ++ news).toArray ++ Builtin.zeroCells z.cells (grownCap w (n0 + n) n0 e - (n0 + n))) e)) w.heap.size e s
        (.slice (some ⟨w.heap.size, 0, none⟩) (n0 + n) (grownCap w (n0 + n) n0 e)) (n0 + n) (xs ++ news) := by
    have hge := grownCap_ge w (n0 + n) n0 e
    have hcm : grownCap w (n0 + n) n0 e ≤ maxLen := grownCap_le_maxLen w (n0 + n) n0 e (by unfold maxLen; omega)
    refine ⟨hall, .inr ⟨w.heap.size, _, _, rfl, Nat.le_refl _, heap_alloc_new w.drew _, hge, hcm, ?_, ?_⟩⟩
    · rw [Array.size_append, List.size_toArray, size_zeroCells, hzs, hall, ← Nat.add_mul]
      congr 1
      omega
    · rw [Array.toList_append]
      exact List.take_left' hall
  have hb : Below w.heap.size w (w.drew.alloc (.cells ((xs ++ news).toArray ++ Builtin.zeroCells z.cells (grownCap w (n0 + n) n0 e - (n0 + n))) e)) := (Below.refl _ _).drew.alloc (Nat.le_refl _) _
  rcases A with _ | a
  · have h0 : n0 = 0 := by
      rcases Nat.eq_zero_or_pos n0 with h1 | h1
      · exact h1
      · obtain ⟨b, o, e1, _⟩ := h.2 (Nat.mul_pos h1 hs1)
        cases e1
    subst h0
    have hx : xs = [] := List.eq_nil_of_length_eq_zero (by rw [hxl]; simp)
    subst hx
    have hr := run_append_grow_src (P := P) w t tx ty e i z ht hi hz none 0 0 [] (run_firstCells_none w.drew _ _ _ _) x n news hs' (by omega) (by omega) (by have := hfits 0 (by omega); simpa using this)
    simp only [Nat.zero_add, List.nil_append] at grown hb hr ⊢
    exact ⟨_, _, hr, grown, hb⟩
  · have holds : ∀ j u, xs[j]? = some u → w.cell? (a.add j) = some u := fun j u hu => by
      have hj : j < n0 * s := by
        rcases Nat.lt_or_ge j (n0 * s) with h1 | h1
        · exact h1
        · rw [List.getElem?_eq_none (by omega)] at hu; cases hu
      obtain ⟨b, o, e1, _, hc⟩ := h.2 (by omega)
      cases e1
      have := hc j u hu
      by_cases hj0 : j = 0
      · subst hj0; simpa [Addr.add] using this
      · simpa [Addr.add, hj0] using this
    have hr := run_append_grow_src (P := P) w t tx ty e i z ht hi hz (some a) n0 n0 xs (run_firstCells_some w.drew _ _ _ _ _ _ (by rw [hsize, hxl]) (by simpa using holds)) x n news hs' (by omega) (by omega) (hfits n0 (by omega))
    exact ⟨_, _, hr, grown, hb⟩
theorem run_appK (base : Nat) (t tx ty e : TypeId) (i : TypeInfo) (z : Value) (bytes : Nat) (ht : P.underlying t = some (.slice e)) (hi : P.info? e = some i) (hz : i.zero = some z)
    (hsize : i.size = 1) (hby : i.bytes = bytes) (hzs : z.cells.size = 1) (hb1 : 1 ≤ bytes)
    (v : Value) (xs : List Value) (hown : Ow w base e v xs) (x : Value) (n : Nat) (news : List Value) (hs : Src P 1 tx x n news w)
    (hbytes : (xs.length + n) * bytes ≤ 140737488355328) (hbase : base ≤ w.heap.size) :
    ∃ v' w', (Builtin.append_ #[t, tx] ty #[v, x]).run P w = .ok v' w' ∧ Ow w' base e v' (xs ++ news) ∧ Gr w w' v v' ∧ Ow w' base e v xs := by
  subst hby
  have hnl : news.length = n := by simpa using hs.newsLen
  have hle : xs.length + n ≤ 140737488355328 := Nat.le_trans (Nat.le_mul_of_pos_right _ hb1) hbytes
  have hfits : ∀ c, c < xs.length + n → Builtin.nextslicecap (xs.length + n) c * i.bytes ≤ 281474976710656 := fun c hc => growslice_fits hc hbytes
  have hs' : Src P i.size tx x n news w := by rw [hsize]; exact hs
  have grown : ∀ (old : Nat), old < xs.length + n →
      Ow (w.drew.alloc (.cells ((xs ++ news).toArray ++ Builtin.zeroCells z.cells (grownCap w (xs.length + n) old e - (xs.length + n))) e)) base e
        (.slice (some ⟨w.heap.size, 0, none⟩) (xs.length + n) (grownCap w (xs.length + n) old e)) (xs ++ news) ∧
      Gr w (w.drew.alloc (.cells ((xs ++ news).toArray ++ Builtin.zeroCells z.cells (grownCap w (xs.length + n) old e - (xs.length + n))) e)) v (.slice (some ⟨w.heap.size, 0, none⟩) (xs.length + n) (grownCap w (xs.length + n) old e)) := by
    intro old ho
    have hge := grownCap_ge w (xs.length + n) old e
    have hcm : grownCap w (xs.length + n) old e ≤ maxLen := grownCap_le_maxLen w (xs.length + n) old e (by unfold maxLen; omega)
    refine ⟨⟨by simp, .inr ⟨w.heap.size, _, _, by rw [List.length_append, hnl], hbase, heap_alloc_new w.drew _, by rw [List.length_append, hnl]; exact hge, hcm, ?_, ?_⟩⟩, ⟨⟨rfl, rfl, rfl, by simp, fun k hk _ => Below.heap_alloc w.drew _ k hk⟩, fun g hg => ?_⟩⟩
    · simp only [Array.size_append, List.size_toArray, size_zeroCells, hzs, List.length_append, hnl]
      omega
    · rw [Array.toList_append, Nat.mul_one]
      exact List.take_left' (by simp)
    · simp [Value.ownBlock] at hg; omega
  rcases hown.2 with ⟨rfl, hx0⟩ | ⟨g, cap, cur, rfl, hbg, hg, hnc, hcm, hcs, htake⟩
  · have hx : xs = [] := List.eq_nil_of_length_eq_zero hx0
    subst hx
    by_cases hm : n = 0
    · subst hm
      have hn : news = [] := List.eq_nil_of_length_eq_zero hnl
      subst hn
      refine ⟨.slice none 0 0, w, ?_, Ow.nil w base e, Gr.refl _ _, Ow.nil w base e⟩
      rcases hs.kind with ⟨e', hk⟩ | hk <;> simp [Builtin.append_, run_underlying ht, run_underlying hk, sizeOf, typeInfo, hi, hsize, hs.len, hs.cells]
    · have hr := run_append_grow_src (P := P) w t tx ty e i z ht hi hz none 0 0 [] (run_firstCells_none w.drew _ _ _ _) x n news hs' (by omega) (by simp at hle; omega) (by have := hfits 0 (by simp; omega); simpa using this)
      have hgr := grown 0 (by simp; omega)
      simp only [List.length_nil, Nat.zero_add, List.nil_append] at hgr hr ⊢
      exact ⟨_, _, hr, hgr.1, hgr.2, Ow.nil _ base e⟩
  · by_cases hroom : xs.length + n ≤ cap
    · have hr := run_room_row (P := P) w t tx ty e i ht hi hsize g xs.length cap cur hg x n news hs hroom (by rw [hcs, hnl]; omega)
      refine ⟨_, _, hr, ⟨by simp, .inr ⟨g, cap, _, by rw [List.length_append, hnl], hbg, setRow_heap w g cur _ e _ hg, by rw [List.length_append, hnl]; exact hroom, hcm, ?_, ?_⟩⟩, ⟨⟨rfl, rfl, rfl, by simp, fun k _ hk => setRow_other w g k _ (fun e => hk (by simp [Value.ownBlock, e]))⟩, fun k hk => .inl hk⟩, ⟨hown.1, .inr ⟨g, cap, _, rfl, hbg, setRow_heap w g cur _ e _ hg, hnc, hcm, ?_, ?_⟩⟩⟩
      · simp only [List.size_toArray, List.length_append, List.length_take, List.length_drop, Array.length_toList]
        omega
      · rw [Nat.mul_one] at htake ⊢
        rw [htake]
        exact List.take_left' (by simp)
      · simp only [List.size_toArray, List.length_append, List.length_take, List.length_drop, Array.length_toList]
        omega
      · rw [Nat.mul_one] at htake ⊢
        rw [htake, List.append_assoc]
        exact List.take_left' rfl
    · have holds : ∀ j u, xs[j]? = some u → w.cell? ((⟨g, 0, none⟩ : Addr).add j) = some u := World.ownsRow.cells hown (g := g) rfl
      have hr := run_append_grow_src (P := P) w t tx ty e i z ht hi hz (some ⟨g, 0, none⟩) xs.length cap xs (run_firstCells_some w.drew _ _ _ _ _ _ (by rw [hsize, Nat.mul_one]) (by simpa using holds)) x n news hs' (by omega) (by omega) (hfits cap (by omega))
      have hgr := grown cap (by omega)
      exact ⟨_, _, hr, hgr.1, hgr.2, Ow.alloc (w := w.drew) hown _⟩

/-- n zeros, as 'append(v, make([]byte, n)...)' is compiled -/
theorem zero_cells (n : Nat) : Builtin.zeroCells #[.int .u8 0] n = (bc (List.replicate n 0)).toArray := by
  apply Array.ext
  · simp [Builtin.zeroCells, bc]
  · intro i h1 h2
    simp [Builtin.zeroCells, bc, Nat.mod_one]
theorem run_appZ (base : Nat) (t tx ty e : TypeId) (i : TypeInfo) (ts : TypeId) (ht : P.underlying t = some (.slice e)) (hx : P.underlying tx = some (.int .i64)) (hs : P.underlying ts = some .string) (hi : P.info? e = some i) (hz : i.zero = some (.int .u8 0))
    (hsize : i.size = 1) (hby : i.bytes = 1) (v : Value) (xs : List Value) (hown : Ow w base e v xs) (n : Nat) (hn : n ≤ 1000) (hxs : xs.length ≤ 100000) (hbase : base ≤ w.heap.size) :
    ∃ v' w', (Builtin.append_ #[t, tx] ty #[v, .int .i64 (n : Int)]).run P w = .ok v' w' ∧ Ow w' base e v' (xs ++ bc (List.replicate n 0)) ∧ Gr w w' v v' ∧ Ow w' base e v xs := by
  obtain ⟨s, hS⟩ : ∃ s : ByteArray, s = ⟨(List.replicate n 0).toArray⟩ := ⟨_, rfl⟩
  have hsz : s.size = n := by rw [hS]; simp [ByteArray.size]
  have hbc : byteCells s = bc (List.replicate n 0) := by rw [hS]; simp [byteCells, bc]
  have hsrc := Src.ofString (P := P) w hs s
  rw [hsz, hbc] at hsrc
  obtain ⟨v', w', hr, h2, h3, h4⟩ := run_appK (P := P) w base t ts ty e i (.int .u8 0) 1 ht hi hz hsize hby rfl (Nat.le_refl _) v xs hown (.string s) n (bc (List.replicate n 0)) hsrc (by omega) hbase
  refine ⟨v', w', ?_, h2, h3, h4⟩
  rw [← hr]
  have hw1 : IntKind.i64.wrap (n : Int) = (n : Int) := by rw [IntKind.wrap_i64]; omega
  have hc1 : (Value.int .u8 0).cells = #[.int .u8 0] := rfl
  have hlen : (bc (List.replicate n 0)).length = n := by simp [bc]
  have hfc : ∀ W : World, (Builtin.firstCells 1 n (.string s)).run P W = .ok (bc (List.replicate n 0)).toArray W := fun W => by
    have := firstCells_string (P := P) s W
    rw [hsz, hbc] at this
    exact this
  have hln : ∀ W : World, (Builtin.lenOf (.string s)).run P W = .ok n W := fun W => by
    show Result.ok s.size W = _
    rw [hsz]
  have hai : ∀ W : World, (asInt (.int .i64 (n : Int))).run P W = .ok (n : Int) W := fun W => by simp [asInt, asIntOf]
  have hwn : IntKind.i64.wrap (n : Int) = (n : Int) := hw1
  have hn0 : ¬ ((n : Int) < 0) := by omega
  have hn48 : ¬ (281474976710656 < (n : Int)) := by omega
  have hgo : ∀ (A : Option Addr) (m c : Nat), m = xs.length → (Builtin.append_ #[t, tx] ty #[.slice A m c, .int .i64 (n : Int)]).run P w = (Builtin.append_ #[t, ts] ty #[.slice A m c, .string s]).run P w := by
    intro A m c hm
    have h63 : ¬ (9223372036854775807 < ((m : Int) + (n : Int))) := by omega
    have h48 : ¬ (m + n ≤ c) → ¬ (281474976710656 < Builtin.nextslicecap (m + n) c) := fun hc => by
      have h1 : (m + n) * 1 ≤ 140737488355328 := by omega
      have := growslice_fits (need := m + n) (old := c) (by omega) h1
      omega
    by_cases h0 : n = 0
    · subst h0
      have he : (bc (List.replicate 0 0)).toArray = #[] := rfl
      have hai0 : ∀ W : World, (asInt (.int .i64 0)).run P W = .ok 0 W := hai
      have hw0 : IntKind.i64.wrap 0 = 0 := hw1
      have h630 : ¬ (9223372036854775807 < (m : Int)) := by omega
      by_cases hroom : m + 0 ≤ c
      · simp only [Nat.add_zero] at hroom
        simp [Builtin.append_, run_underlying ht, run_underlying hx, run_underlying hs, sizeOf, typeInfo, zeroValue, hi, hz, hsize, hby, hw1, hln, hfc, he, (show bc [] = [] from rfl), hroom, hai0, hw0]
      · have h48' := h48 hroom
        simp only [Nat.add_zero] at h48' hroom
        simp [Builtin.append_, run_underlying ht, run_underlying hx, run_underlying hs, sizeOf, typeInfo, zeroValue, hi, hz, hsize, hby, hw1, hln, hfc, he, (show bc [] = [] from rfl), hroom, hai0, hw0, h48', h630]
    · by_cases hroom : m + n ≤ c
      · simp [Builtin.append_, run_underlying ht, run_underlying hx, run_underlying hs, sizeOf, typeInfo, zeroValue, hi, hz, hsize, hby, hw1, hln, hfc, hroom, hai, hwn, hn0, hn48, h0, hc1, zero_cells]
      · have h48' := h48 hroom
        simp [Builtin.append_, run_underlying ht, run_underlying hx, run_underlying hs, sizeOf, typeInfo, zeroValue, hi, hz, hsize, hby, hw1, hln, hfc, hroom, hai, hwn, hn0, hn48, h0, hc1, zero_cells, h48', h63]
  rcases hown.2 with ⟨rfl, hx0⟩ | ⟨g, cap, cur, rfl, _⟩
  · exact hgo none 0 0 hx0.symm
  · exact hgo _ _ _ rfl
theorem wpList_appZ {ops : Array Oper} {rest : List Oper} {o : Oper} {a : Act} {Q : Exit → Act → World → Prop} (hgd : o.guard = none) (s x : Operand) (t tx : TypeId)
    (ho : o.op = .call { callee := .builtin .append, args := #[s, x], argTypes := #[t, tx] })
    (base : Nat) (e : TypeId) (i : TypeInfo) (ts : TypeId) (ht : P.underlying t = some (.slice e)) (hx : P.underlying tx = some (.int .i64)) (hs : P.underlying ts = some .string) (hi : P.info? e = some i) (hz : i.zero = some (.int .u8 0))
    (hsize : i.size = 1) (hby : i.bytes = 1) (v : Value) (xs : List Value) (hown : Ow w base e v xs) (hv : a.eval s = v) (n : Nat) (hvx : a.eval x = .int .i64 (n : Int)) (hn : n ≤ 1000) (hxs : xs.length ≤ 100000) (hbase : base ≤ w.heap.size)
    (h : ∀ v' w', Ow w' base e v' (xs ++ bc (List.replicate n 0)) → Gr w w' v v' → base ≤ w'.heap.size → Ow w' base e v xs → wpList P ops Q rest (a.put o.dst v') w') : wpList P ops Q (o :: rest) a w := by
  refine wpList_plain hgd fun K hK => ?_
  obtain ⟨v', w', hr, h2, h3, h4⟩ := run_appZ (P := P) w base t tx o.type e i ts ht hx hs hi hz hsize hby v xs hown n hn hxs hbase
  unfold Oper.wp execOp
  simp only [ho, resolve, invoke, builtin, Sem.run_bind, Sem.run_pure, Result.andThen_ok, List.map_toArray, List.map_cons, List.map_nil, hv, hvx, hr]
  exact hK _ _ (h v' w' h2 h3 (Nat.le_trans hbase h3.1.size) h4)
theorem wpList_appG {ops : Array Oper} {rest : List Oper} {o : Oper} {a : Act} {Q : Exit → Act → World → Prop} (hgd : o.guard = none) (sl x : Operand) (t tx : TypeId)
    (ho : o.op = .call { callee := .builtin .append, args := #[sl, x], argTypes := #[t, tx] })
    (B s : Nat) (e : TypeId) (i : TypeInfo) (z : Value) (bytes : Nat) (ht : P.underlying t = some (.slice e)) (hi : P.info? e = some i) (hz : i.zero = some z)
    (hsize : i.size = s) (hby : i.bytes = bytes) (hzs : z.cells.size = s) (hb1 : 1 ≤ bytes) (hs1 : 1 ≤ s)
    (A : Option Addr) (n0 : Nat) (xs : List Value) (hv : a.eval sl = .slice A n0 n0) (h : Rd w B A (n0 * s) xs) (xv : Value) (hx : a.eval x = xv) (n : Nat) (news : List Value) (hs : Src P s tx xv n news w) (hn : 0 < n)
    (hbytes : (n0 + n) * bytes ≤ 140737488355328)
    (hk : ∀ v' w', OwM w' w.heap.size e s v' (n0 + n) (xs ++ news) → Below w.heap.size w w' → wpList P ops Q rest (a.put o.dst v') w') : wpList P ops Q (o :: rest) a w := by
  refine wpList_plain hgd fun K hK => ?_
  obtain ⟨v', w', hr, h2, h3⟩ := run_appG (P := P) w B s t tx o.type e i z bytes ht hi hz hsize hby hzs hb1 hs1 A n0 xs h _ n news hs hn hbytes
  unfold Oper.wp execOp
  simp only [ho, resolve, invoke, builtin, Sem.run_bind, Sem.run_pure, Result.andThen_ok, List.map_toArray, List.map_cons, List.map_nil, hv, hx, hr]
  exact hK _ _ (hk v' w' h2 h3)
end
/-! ### the records -/
def updF {α : Type} (f : Nat → α) (i : Nat) (a : α) : Nat → α := fun j => if j = i then a else f j
def nilR : Nat → RW := fun _ => ⟨none, 0, []⟩
def recA (a0 a1 kd n : Nat) : RR := ⟨some ⟨a0, 0, none⟩, 1, some ⟨a1, 0, none⟩, n, none, 0, ⟨⟨[[97]], kd, n⟩, 4294967295, List.replicate n 0, 0, 0, 0, []⟩⟩
def recB (b0 kd p tl : Nat) : RR := ⟨none, 0, none, 0, some ⟨b0, 0, none⟩, 2, ⟨⟨[], kd, 1⟩, 0, [], 0, 0, p, [[116], []].take tl⟩⟩
theorem recA_cells (a0 a1 kd n : Nat) : (recA a0 a1 kd n).cells = [.slice (some ⟨a0, 0, none⟩) 1 1, .int .u16 (kd : Int), .int .u16 (n : Int), .int .u32 4294967295, .slice (some ⟨a1, 0, none⟩) n n, .int .u16 0, .int .u16 0, .int .u16 0, .slice none 0 0] := by simp [recA, RR.cells]
theorem recB_cells (b0 kd p tl : Nat) (h : tl ≤ 1) : (recB b0 kd p tl).cells = [.slice none 0 0, .int .u16 (kd : Int), .int .u16 1, .int .u32 0, .slice none 0 0, .int .u16 0, .int .u16 0, .int .u16 (p : Int), .slice (some ⟨b0, 0, none⟩) tl 2] := by
  rcases (show tl = 0 ∨ tl = 1 by omega) with rfl | rfl <;> simp [recB, RR.cells]
def mrowK (rs : Nat → RW) : List Value := [.int .u16 0, .int .u16 65535, .slice none 0 0, (rs 0).v, (rs 1).v, (rs 2).v]
def mrK (rs : Nat → RW) : MR := ⟨0, 65535, none, 0, [], (rs 0).A, (rs 0).c, (rs 0).l, (rs 1).A, (rs 1).c, (rs 1).l, (rs 2).A, (rs 2).c, (rs 2).l⟩
theorem mrowK_set (i : Nat) (hi : i < 3) (r : RW) : (mrowK nilR).set (3 + i) r.v = mrowK (updF nilR i r) := by
  rcases (show i = 0 ∨ i = 1 ∨ i = 2 by omega) with rfl | rfl | rfl <;> simp [mrowK, updF]
theorem start27 (w : World) (kd n : Nat) : ∃ W, W = ((((w.alloc (.cells #[.string ⟨#[97]⟩] 9)).alloc (.cells (bc (List.replicate n 0)).toArray 5)).alloc (.cells #[.slice (some ⟨w.heap.size, 0, none⟩) 1 1, .int .u16 (kd : Int), .int .u16 (n : Int), .int .u32 4294967295, .slice (some ⟨w.heap.size + 1, 0, none⟩) n n, .int .u16 0, .int .u16 0, .int .u16 0, .slice none 0 0] 41)).alloc (.cells #[.int .u16 0, .int .u16 65535, .slice none 0 0, .slice none 0 0, .slice none 0 0, .slice none 0 0] 28)) ∧ Below w.heap.size w W ∧ Vx W (w.heap.size + 1 + 1) 41 [.slice (some ⟨w.heap.size, 0, none⟩) 1 1, .int .u16 (kd : Int), .int .u16 (n : Int), .int .u32 4294967295, .slice (some ⟨w.heap.size + 1, 0, none⟩) n n, .int .u16 0, .int .u16 0, .int .u16 0, .slice none 0 0] ∧ Vx W (w.heap.size + 1 + 1 + 1) 28 (mrowK nilR) ∧
    Vx W w.heap.size 9 (sc [[97]]) ∧ Vx W (w.heap.size + 1) 5 (bc (List.replicate n 0)) := by
  refine ⟨_, rfl, ?_⟩
  obtain ⟨g, hg⟩ : ∃ g, g = w.heap.size := ⟨_, rfl⟩
  rw [← hg]
  obtain ⟨w1, h1⟩ : ∃ x, x = w.alloc (.cells #[.string ⟨#[97]⟩] 9) := ⟨_, rfl⟩
  have s1 : w1.heap.size = g + 1 := by rw [h1, hg]; simp
  have v1 := Vx.new w 9 (sc [[97]])
  rw [← hg, show w.alloc (.cells (sc [[97]]).toArray 9) = w1 from h1.symm] at v1
  have b1 : Below w.heap.size w w1 := by rw [h1]; exact below_new _ _
  rw [← h1]
  obtain ⟨w2, h2⟩ : ∃ x, x = w1.alloc (.cells (bc (List.replicate n 0)).toArray 5) := ⟨_, rfl⟩
  have s2 : w2.heap.size = g + 2 := by rw [h2]; simp; omega
  have v2 := Vx.new w1 5 (bc (List.replicate n 0))
  rw [s1, ← h2] at v2
  have b2 : Below w1.heap.size w1 w2 := by rw [h2]; exact below_new _ _
  rw [← h2]
  obtain ⟨w3, h3⟩ : ∃ x, x = w2.alloc (.cells #[.slice (some ⟨g, 0, none⟩) 1 1, .int .u16 (kd : Int), .int .u16 (n : Int), .int .u32 4294967295, .slice (some ⟨g + 1, 0, none⟩) n n, .int .u16 0, .int .u16 0, .int .u16 0, .slice none 0 0] 41) := ⟨_, rfl⟩
  have s3 : w3.heap.size = g + 3 := by rw [h3]; simp; omega
  have v3 := Vx.new w2 41 [.slice (some ⟨g, 0, none⟩) 1 1, .int .u16 (kd : Int), .int .u16 (n : Int), .int .u32 4294967295, .slice (some ⟨g + 1, 0, none⟩) n n, .int .u16 0, .int .u16 0, .int .u16 0, .slice none 0 0]
  rw [s2, show w2.alloc (.cells [.slice (some ⟨g, 0, none⟩) 1 1, .int .u16 (kd : Int), .int .u16 (n : Int), .int .u32 4294967295, .slice (some ⟨g + 1, 0, none⟩) n n, .int .u16 0, .int .u16 0, .int .u16 0, .slice none 0 0].toArray 41) = w3 from h3.symm] at v3
  have b3 : Below w2.heap.size w2 w3 := by rw [h3]; exact below_new _ _
  rw [← h3]
  obtain ⟨w4, h4⟩ : ∃ x, x = w3.alloc (.cells #[.int .u16 0, .int .u16 65535, .slice none 0 0, .slice none 0 0, .slice none 0 0, .slice none 0 0] 28) := ⟨_, rfl⟩
  have v4 := Vx.new w3 28 (mrowK nilR)
  rw [s3, show w3.alloc (.cells (mrowK nilR).toArray 28) = w4 from h4.symm] at v4
  have b4 : Below w3.heap.size w3 w4 := by rw [h4]; exact below_new _ _
  rw [← h4]
  have c2 : Below w2.heap.size w2 w4 := b3.trans (b4.mono b3.size)
  have c1 : Below w1.heap.size w1 w4 := b2.trans (c2.mono b2.size)
  exact ⟨hg ▸ b1.trans (c1.mono b1.size), v3.below b4 v3.lt, v4, v1.below c1 v1.lt, v2.below c2 v2.lt⟩
theorem mem29 (w : World) (M a0 a1 kd n p tl r3 : Nat) (hM : Vx w M 28 (mrowK nilR)) (h0 : Vx w a0 9 (sc [[97]])) (h1 : Vx w a1 5 (bc (List.replicate n 0))) (ha0 : a0 ≠ M) (ha1 : a1 ≠ M)
    (hr : r3 < 3) (htl : tl ≤ 1) (hkd : kd < 65536) (hn : n < 9) (hp : p < 65536) :
    ∃ (W : World) (rs : Nat → RW), W = ((w.alloc (.cells #[.string ⟨#[116]⟩, .string ⟨#[]⟩] 9)).alloc (.cells #[.slice (some ⟨a0, 0, none⟩) 1 1, .int .u16 (kd : Int), .int .u16 (n : Int), .int .u32 4294967295, .slice (some ⟨a1, 0, none⟩) n n, .int .u16 0, .int .u16 0, .int .u16 0, .slice none 0 0, .slice none 0 0, .int .u16 (kd : Int), .int .u16 1, .int .u32 0, .slice none 0 0, .int .u16 0, .int .u16 0, .int .u16 (p : Int), .slice (some ⟨w.heap.size, 0, none⟩) tl 2] 41)).setCell ⟨M, 3 + r3, none⟩ (.slice (some ⟨w.heap.size + 1, 0, none⟩) 2 2) ∧ Vx W M 28 (mrowK rs) ∧ MRd W W.heap.size (mrK rs) ∧ Cpy (mrK rs) ∧ (∀ B, B ≤ M → B ≤ w.heap.size → Below B w W) ∧ ∀ (q : Nat) (e : TypeId) (cs : List Value), q ≠ M → Vx w q e cs → Vx W q e cs := by
  obtain ⟨b0, hb0⟩ : ∃ g, g = w.heap.size := ⟨_, rfl⟩
  rw [← hb0]
  obtain ⟨w1, e1⟩ : ∃ x, x = w.alloc (.cells #[.string ⟨#[116]⟩, .string ⟨#[]⟩] 9) := ⟨_, rfl⟩
  have s1 : w1.heap.size = b0 + 1 := by rw [e1, hb0]; simp
  have v1 := Vx.new w 9 (sc [[116], []])
  rw [← hb0, show w.alloc (.cells (sc [[116], []]).toArray 9) = w1 from e1.symm] at v1
  have n1 : Below w.heap.size w w1 := by rw [e1]; exact below_new _ _
  rw [← e1]
  obtain ⟨w2, e2⟩ : ∃ x, x = w1.alloc (.cells #[.slice (some ⟨a0, 0, none⟩) 1 1, .int .u16 (kd : Int), .int .u16 (n : Int), .int .u32 4294967295, .slice (some ⟨a1, 0, none⟩) n n, .int .u16 0, .int .u16 0, .int .u16 0, .slice none 0 0, .slice none 0 0, .int .u16 (kd : Int), .int .u16 1, .int .u32 0, .slice none 0 0, .int .u16 0, .int .u16 0, .int .u16 (p : Int), .slice (some ⟨b0, 0, none⟩) tl 2] 41) := ⟨_, rfl⟩
  have hcs : rcs [recA a0 a1 kd n, recB b0 kd p tl] = [.slice (some ⟨a0, 0, none⟩) 1 1, .int .u16 (kd : Int), .int .u16 (n : Int), .int .u32 4294967295, .slice (some ⟨a1, 0, none⟩) n n, .int .u16 0, .int .u16 0, .int .u16 0, .slice none 0 0, .slice none 0 0, .int .u16 (kd : Int), .int .u16 1, .int .u32 0, .slice none 0 0, .int .u16 0, .int .u16 0, .int .u16 (p : Int), .slice (some ⟨b0, 0, none⟩) tl 2] := by
    show (recA a0 a1 kd n).cells ++ ((recB b0 kd p tl).cells ++ []) = _
    rw [recA_cells, recB_cells _ _ _ _ htl]; rfl
  have v2 := Vx.new w1 41 [.slice (some ⟨a0, 0, none⟩) 1 1, .int .u16 (kd : Int), .int .u16 (n : Int), .int .u32 4294967295, .slice (some ⟨a1, 0, none⟩) n n, .int .u16 0, .int .u16 0, .int .u16 0, .slice none 0 0, .slice none 0 0, .int .u16 (kd : Int), .int .u16 1, .int .u32 0, .slice none 0 0, .int .u16 0, .int .u16 0, .int .u16 (p : Int), .slice (some ⟨b0, 0, none⟩) tl 2]
  rw [s1, show w1.alloc (.cells [.slice (some ⟨a0, 0, none⟩) 1 1, .int .u16 (kd : Int), .int .u16 (n : Int), .int .u32 4294967295, .slice (some ⟨a1, 0, none⟩) n n, .int .u16 0, .int .u16 0, .int .u16 0, .slice none 0 0, .slice none 0 0, .int .u16 (kd : Int), .int .u16 1, .int .u32 0, .slice none 0 0, .int .u16 0, .int .u16 0, .int .u16 (p : Int), .slice (some ⟨b0, 0, none⟩) tl 2].toArray 41) = w2 from e2.symm, ← hcs] at v2
  have n2 : Below w1.heap.size w1 w2 := by rw [e2]; exact below_new _ _
  rw [← e2]
  have hMl := hM.lt
  have n12 : Below w.heap.size w w2 := n1.trans (n2.mono n1.size)
  have hM2 := hM.below n12 hMl
  have v12 := v1.below n2 v1.lt
  refine ⟨_, updF nilR r3 ⟨some ⟨b0 + 1, 0, none⟩, 2, [recA a0 a1 kd n, recB b0 kd p tl]⟩, rfl, ?_, ?_, ?_, fun B h1 h2 => ?_, fun q e cs hq hv => ?_⟩
  · have := hM2.set_ (3 + r3) (.slice (some ⟨b0 + 1, 0, none⟩) 2 2)
    rw [← mrowK_set r3 hr]
    exact this
  · have X0 : Vx (w2.setCell ⟨M, 3 + r3, none⟩ (.slice (some ⟨b0 + 1, 0, none⟩) 2 2)) a0 9 (sc [[97]]) := (h0.below n12 h0.lt).setO ha0 _ _
    have X1 : Vx (w2.setCell ⟨M, 3 + r3, none⟩ (.slice (some ⟨b0 + 1, 0, none⟩) 2 2)) a1 5 (bc (List.replicate n 0)) := (h1.below n12 h1.lt).setO ha1 _ _
    have X2 := v2.setO (show b0 + 1 ≠ M by omega) (3 + r3) (.slice (some ⟨b0 + 1, 0, none⟩) 2 2)
    have X3 := v12.setO (show b0 ≠ M by omega) (3 + r3) (.slice (some ⟨b0 + 1, 0, none⟩) 2 2)
    generalize w2.setCell ⟨M, 3 + r3, none⟩ (.slice (some ⟨b0 + 1, 0, none⟩) 2 2) = W at X0 X1 X2 X3 ⊢
    have hA : RRd W W.heap.size (recA a0 a1 kd n) := by
      refine ⟨⟨⟨X0.rdV rfl, Nat.le_refl _, by show sizeN [[97]] ≤ _; decide⟩, hkd, by show n < 65536; omega⟩, ⟨?_, ?_, ?_⟩, ⟨Rd.nil _ _ _, Nat.le_refl _, by show sizeN [] ≤ _; decide⟩, by show 4294967295 < 4294967296; omega, by show 0 < 65536; omega, by show 0 < 65536; omega, by show 0 < 65536; omega⟩
      · exact X1.rdV (by simp [bc, recA])
      · simp [recA]
      · simp [recA]; omega
    have hB : RRd W W.heap.size (recB b0 kd p tl) := by
      refine ⟨⟨⟨Rd.nil _ _ _, Nat.le_refl _, by show sizeN [] ≤ _; decide⟩, hkd, by show 1 < 65536; omega⟩, ⟨Rd.nil _ _ _, Nat.le_refl _, Nat.zero_le _⟩, ?_, by show 0 < 4294967296; omega, by show 0 < 65536; omega, by show 0 < 65536; omega, hp⟩
      have hr3 := X3.rdV (n := 2) rfl
      rcases (show tl = 0 ∨ tl = 1 by omega) with rfl | rfl
      · exact ⟨⟨rfl, fun h => absurd h (by show ¬ 0 < 0; omega)⟩, by show 0 ≤ 2; omega, by show sizeN [] ≤ _; decide⟩
      · refine ⟨?_, by show 1 ≤ 2; omega, by show sizeN [[116]] ≤ _; decide⟩
        have := hr3.cut (k := 0) (m := 1) (cap := 2) (by omega) (by omega) (by omega)
        rw [cutA_zero] at this
        exact this
    have hrow : RsRd W W.heap.size (some ⟨b0 + 1, 0, none⟩) 2 2 [recA a0 a1 kd n, recB b0 kd p tl] := by
      refine ⟨X2.rdV (by rw [hcs]; rfl), rfl, Nat.le_refl _, by omega, fun x hx => ?_⟩
      simp only [List.mem_cons, List.not_mem_nil, or_false] at hx
      rcases hx with rfl | rfl
      · exact hA
      · exact hB
    rcases (show r3 = 0 ∨ r3 = 1 ∨ r3 = 2 by omega) with rfl | rfl | rfl
    · exact ⟨by show 0 < 65536; omega, by show 65535 < 65536; omega, QsRd.nil _ _, hrow, RsRd.nil _ _, RsRd.nil _ _⟩
    · exact ⟨by show 0 < 65536; omega, by show 65535 < 65536; omega, QsRd.nil _ _, RsRd.nil _ _, hrow, RsRd.nil _ _⟩
    · exact ⟨by show 0 < 65536; omega, by show 65535 < 65536; omega, QsRd.nil _ _, RsRd.nil _ _, RsRd.nil _ _, hrow⟩
  · refine ⟨fun z hz => (by cases hz), fun i r hr => ?_⟩
    have hr' : r = recA a0 a1 kd n ∨ r = recB b0 kd p tl := by
      have hn : ∀ j, r ∈ (updF nilR r3 ⟨some ⟨b0 + 1, 0, none⟩, 2, [recA a0 a1 kd n, recB b0 kd p tl]⟩ j).l → r = recA a0 a1 kd n ∨ r = recB b0 kd p tl := fun j hj => by
        unfold updF at hj
        split at hj
        · simpa using hj
        · cases hj
      match i, hr with
      | 0, hr => exact hn 0 hr
      | 1, hr => exact hn 1 hr
      | k + 2, hr => exact hn 2 hr
    rcases hr' with rfl | rfl
    · exact ⟨by show 1 * 16 ≤ _; omega, by show 0 * 16 ≤ _; omega⟩
    · refine ⟨by show 0 * 16 ≤ _; omega, ?_⟩
      have : ((recB b0 kd p tl).r.tg).length ≤ 2 := by simp [recB]; omega
      omega
  · exact (n12.mono (show B ≤ w.heap.size by omega)).setCell (p := ⟨M, 3 + r3, none⟩) h1 _
  · exact (hv.below n12 hv.lt).setO hq _ _
end Ds
set_option maxRecDepth 100000 in
set_option maxHeartbeats 1000000 in
theorem example2_at (w : World) :
    Calls Try.prog 5 #[] w fun e w' => ∃ (A : Option Addr) (c : Nat) (x : MR), e = .returned (.tuple #[.slice A 22 c, .agg x.cells.toArray]) ∧ x.m = DX.M ∧ Rd w' w'.heap.size A 22 (bc DX.qB) ∧ MRd w' w'.heap.size x ∧ Below w.heap.size w w' ∧ 22 ≤ c := by
  have kc := fun (w : World) (C : Array Value) (n c : Nat) => Lib.run_convert_bytes_const (P := Try.prog) w 22 5 C n c Try.underlying22 Try.underlying5
  go_enter Try.func5, Try.ntmps5
  go_upto_region 4 with fail
  have kc2 : ∀ (w : World) (C : Array Value) (n c : Nat), (convert 22 22 (.slice (some ⟨w.heap.size, 0, none⟩) n c)).run Try.prog (w.alloc (.cells C 5)).drew = .ok (.slice (some ⟨w.heap.size, 0, none⟩) n c) (w.alloc (.cells C 5 (C.size, C.size + 1))).drew := fun w C n c => Lib.run_convert_bytes_const (P := Try.prog) w.drew 22 5 C n c Try.underlying22 Try.underlying5
  clear kc
  obtain ⟨W, hW⟩ : ∃ W, W = (((((((w.alloc (.cells #[.int .u16 0, .int .u16 0, .slice none 0 0, .slice none 0 0, .slice none 0 0, .slice none 0 0] 28)).alloc (.cells #[.string ⟨#[95, 97]⟩, .string ⟨#[98]⟩] 9)).alloc
      (.cells #[.slice (some ⟨w.heap.size + 1, 0, none⟩) 2 2, .int .u16 33, .int .u16 1] 38)).alloc (.cells #[.slice (some ⟨w.heap.size + 1, 0, none⟩) 2 2, .int .u16 33, .int .u16 1] 38)).alloc
      (.cells #[.int .u16 258, .int .u16 32768, .slice (some ⟨w.heap.size + 1 + 1 + 1, 0, none⟩) 1 1, .slice (some ⟨w.heap.size + 1 + 1 + 1 + 1 + 1 + 1, 0, none⟩) 1 1, .slice none 0 0, .slice none 0 0] 28)).alloc (.cells #[.string ⟨#[104]⟩, .string ⟨#[98]⟩] 9)).alloc
      (.cells #[.slice (some ⟨w.heap.size + 1, 0, none⟩) 2 2, .int .u16 33, .int .u16 1, .int .u32 60, .slice none 0 0, .int .u16 1, .int .u16 2, .int .u16 80, .slice (some ⟨w.heap.size + 1 + 1 + 1 + 1 + 1, 0, none⟩) 2 2] 41)) := ⟨_, rfl⟩
  rw [← hW]
  obtain ⟨z0, z1, z3, z4, z5, z6, hsz, hbw⟩ := chain7 w _ _ _ _ _ _ _ W hW
  clear hW
  have v0 : Vx W w.heap.size 28 zM6 := z0
  have v4 : Vx W (w.heap.size + 1 + 1 + 1 + 1) 28 (DX.x w.heap.size).cells := z4
  have HF := Lib.hid (fun (W' : World) (C : Array Value) (t : TypeId) (fr : Nat × Nat) (a0 a1 a2 a3 a4 a5 : Value) hW => ex_fin (W' := W') (C := C) (t := t) (fr := fr) (a0 := a0) (a1 := a1) (a2 := a2) (a3 := a3) (a4 := a4) (a5 := a5) (b := w.heap.size) hW z0 z1 z3 z5 z6)
  have hlt : w.heap.size < W.heap.size := by omega
  have hlt4 : w.heap.size + 1 + 1 + 1 + 1 < W.heap.size := by omega
  clear z0 z1 z3 z4 z5 z6 hsz
  obtain ⟨p0, p1, p2, p3, p4, p5⟩ := v0.c6
  obtain ⟨q0, q1, q2, q3, q4, q5⟩ := v4.c6
  have f0 := v0.free 0
  have f1 := v0.free 1
  have f2 := v0.free 2
  have f3 := v0.free 3
  have f4 := v0.free 4
  have f5 := v0.free 5
  have V0 := Lib.hid v0
  have V4 := Lib.hid v4
  have HBW := Lib.hid hbw
  clear v0 v4 hbw
  go_region
  all_goals go_wp2_with fail
  all_goals
    obtain ⟨F1, F2, F3, F4⟩ := HF.out _ _ _ _ _ _ _ _ _ _ rfl
    refine bodyPost_ret (resM2 Try.results5 _ _ w.heap.size _ _ _ rfl rfl F2 rfl) rfl ?_
    exact ⟨some ⟨W.heap.size, 0, none⟩, 22, DX.x w.heap.size, rfl, rfl, F4 (by kernel_rfl), F1, HBW.out.trans (F3 (by omega)), Nat.le_refl 22⟩
end Go.Proofs.Ytlipmlbijddopaa
set_option linter.unusedVariables false
set_option linter.unusedSimpArgs false
namespace Go.Proofs.Ytlipmlbijddopaa
open Go.RowKit
/-- a row of bytes that can be read -/
structure Br where
  A : Option Addr
  c : Nat
  b : List UInt8
def Br.v (x : Br) : Value := .slice x.A x.b.length x.c
def Br.ok (w : World) (x : Br) : Prop := Rd w w.heap.size x.A x.b.length (bc x.b) ∧ x.b.length ≤ x.c ∧ x.b.length ≤ 200
theorem Br.ok.goes {w w' : World} {x : Br} (h : x.ok w) (hb : Below w.heap.size w w') : x.ok w' := ⟨h.1.goes hb, h.2⟩
theorem Vx.rowB {w : World} {T : Nat} {l : List Br} (h : Vx w T 22 (l.map Br.v)) {i : Nat} (hi : i < l.length) : w.cell? ⟨T, i, none⟩ = some (.slice l[i].A l[i].b.length l[i].c) := by
  rw [h.cell i, List.getElem?_map, List.getElem?_eq_getElem hi]; rfl
theorem Br.reads {w : World} {x : Br} (h : x.ok w) (L : Nat) (hL : x.b.length = L) : Calls Try.prog 8 #[.slice x.A L x.c] w fun e w' => e = .returned (.bool true) ∧ Below w.heap.size w w' := by
  subst hL
  exact reads_at x.A x.c x.b w h.1 h.2.1 (by have := h.2.2; omega)
theorem readsL {w : World} {A : Option Addr} {c L : Nat} {b : List UInt8} (h : Rd w w.heap.size A L (bc b)) (hb : b.length = L) (hc : L ≤ c) (hL : L ≤ 140737488355328) : Calls Try.prog 8 #[.slice A L c] w fun e w' => e = .returned (.bool true) ∧ Below w.heap.size w w' := by
  subst hb
  exact reads_at A c b w h hc hL
theorem wpList_appH {P : Program} (w : World) {ops : Array Oper} {rest : List Oper} {o : Oper} {a : Act} {Q : Exit → Act → World → Prop} (hw : Region.wanted o (yielded ops a.tmps) = true) (s x : Operand) (t tx : TypeId)
    (ho : o.op = .call { callee := .builtin .append, args := #[s, x], argTypes := #[t, tx] })
    (base : Nat) (e : TypeId) (i : TypeInfo) (z : Value) (bytes : Nat) (ht : P.underlying t = some (.slice e)) (hi : P.info? e = some i) (hz : i.zero = some z)
    (hsize : i.size = 1) (hby : i.bytes = bytes) (hzs : z.cells.size = 1) (hb1 : 1 ≤ bytes)
    (v : Value) (xs : List Value) (hown : Ow w base e v xs) (hv : a.eval s = v) (n : Nat) (news : List Value) (hs : Src P 1 tx (a.eval x) n news w)
    (hbytes : (xs.length + n) * bytes ≤ 140737488355328) (hbase : base ≤ w.heap.size)
    (h : ∀ v' w', Ow w' base e v' (xs ++ news) → Gr w w' v v' → base ≤ w'.heap.size → wpList P ops Q rest (a.put o.dst v') w') : wpList P ops Q (o :: rest) a w := by
  refine wpList_step fun K hK => ?_
  rw [if_pos hw]
  obtain ⟨v', w', hr, h2, h3⟩ := run_app (P := P) w base t tx o.type e i z bytes ht hi hz hsize hby hzs hb1 v xs hown _ n news hs hbytes hbase
  unfold Oper.wp execOp
  simp only [ho, resolve, invoke, builtin, Sem.run_bind, Sem.run_pure, Result.andThen_ok, List.map_toArray, List.map_cons, List.map_nil, hv, hr]
  exact hK _ _ (h v' w' h2 h3 (Nat.le_trans hbase h3.1.size))
theorem step_appH {P : Program} (w : World) {ops : Array Oper} {o : Oper} {a : Act} {K : Act → World → Prop} {Q : Exit → Act → World → Prop} {E : Prop} (hw : Region.wanted o (yielded ops a.tmps) = true) (s x : Operand) (t tx : TypeId)
    (ho : o.op = .call { callee := .builtin .append, args := #[s, x], argTypes := #[t, tx] })
    (base : Nat) (e : TypeId) (i : TypeInfo) (z : Value) (bytes : Nat) (ht : P.underlying t = some (.slice e)) (hi : P.info? e = some i) (hz : i.zero = some z)
    (hsize : i.size = 1) (hby : i.bytes = bytes) (hzs : z.cells.size = 1) (hb1 : 1 ≤ bytes)
    (v : Value) (xs : List Value) (hown : Ow w base e v xs) (hv : a.eval s = v) (xv : Value) (hx : a.eval x = xv) (n : Nat) (news : List Value) (hs : Src P 1 tx xv n news w)
    (hbytes : (xs.length + n) * bytes ≤ 140737488355328) (hbase : base ≤ w.heap.size)
    (h : ∀ v' w', Ow w' base e v' (xs ++ news) → Gr w w' v v' → base ≤ w'.heap.size → K (a.put o.dst v') w') :
    if Region.wanted o (yielded ops a.tmps) = true then Oper.wp P o a w K Q else E := by
  rw [if_pos hw]
  obtain ⟨v', w', hr, h2, h3⟩ := run_app (P := P) w base t tx o.type e i z bytes ht hi hz hsize hby hzs hb1 v xs hown _ n news hs hbytes hbase
  unfold Oper.wp execOp
  simp only [ho, resolve, invoke, builtin, Sem.run_bind, Sem.run_pure, Result.andThen_ok, List.map_toArray, List.map_cons, List.map_nil, hv, hx, hr]
  exact h v' w' h2 h3 (Nat.le_trans hbase h3.1.size)
theorem rd_front {w : World} {B : Nat} {A : Option Addr} {n j : Nat} {b : List UInt8} (h : Rd w B A n (bc b)) (hn : b.length = n) (hj : j ≤ n) : Rd w B A j (bc (b.take j)) := by
  refine ⟨by simp; omega, fun h0 => ?_⟩
  obtain ⟨b0, o, rfl, hlt, hc⟩ := h.2 (by omega)
  refine ⟨b0, o, rfl, hlt, fun i u hu => hc i u ?_⟩
  have e : bc (b.take j) = (bc b).take j := by simp [bc, List.map_take]
  rw [e, List.getElem?_take] at hu
  split at hu
  · exact hu
  · cases hu
theorem put_own {w : World} {base cap g j n : Nat} {b : List UInt8} (h : Ow w base 5 (.slice (some ⟨g, 0, none⟩) n cap) (bc b)) (hn : b.length = n) (hj : j < n) (u : UInt8) :
    Ow (w.setCell ⟨g, j, none⟩ (.int .u8 (u.toNat : Int))) base 5 (.slice (some ⟨g, 0, none⟩) n cap) (bc (b.set j u)) := by
  subst hn
  have h0 : w.ownsRow base 5 1 (.slice (some ⟨g, 0, none⟩) b.length cap) b.length (bc b) := by have := h; unfold Ow at this; rwa [bc_length] at this
  have h1 := (h0.stored j (.int .u8 (u.toNat : Int))).1
  have e : (bc b).set j (.int .u8 (u.toNat : Int)) = bc (b.set j u) := by simp [bc, List.map_set]
  rw [e] at h1
  unfold Ow
  rw [bc_length, List.length_set]
  exact h1
theorem own_at {w : World} {base cap g j n : Nat} {b : List UInt8} (h : Ow w base 5 (.slice (some ⟨g, 0, none⟩) n cap) (bc b)) (hn : b.length = n) (hj : j < n) :
    w.cell? ⟨g, j, none⟩ = some (.int .u8 ((b[j]'(by omega)).toNat : Int)) ∧ w.frozen? ⟨g, j, none⟩ = false := by
  subst hn
  have h0 : w.ownsRow base 5 1 (.slice (some ⟨g, 0, none⟩) b.length cap) b.length (bc b) := by have := h; unfold Ow at this; rwa [bc_length] at this
  refine ⟨?_, h0.frozenAt j⟩
  rw [h0.cellAt j (by omega)]
  simp [bc, hj]
theorem own_some {w : World} {base n : Nat} {v : Value} {b : List UInt8} (h : Ow w base 5 v (bc b)) (hn : b.length = n) (h0 : 0 < n) : ∃ g cap, v = .slice (some ⟨g, 0, none⟩) n cap ∧ n ≤ cap ∧ base ≤ g ∧ g < w.heap.size := by
  subst hn
  have h1 : w.ownsRow base 5 1 v b.length (bc b) := by have := h; unfold Ow at this; rwa [bc_length] at this
  have hh := h1
  rcases h1.2 with ⟨rfl, hx⟩ | ⟨g, cap, cur, rfl, hg, hg2, h2, h3, _⟩
  · simp only [bc_length, List.length_eq_zero_iff, bc] at hx
    have : b.length = 0 := by
      have := congrArg List.length hx
      simpa using this
    omega
  · exact ⟨g, cap, rfl, h2, hg, (hh.lt g rfl).2⟩
set_option maxRecDepth 100000 in
set_option maxHeartbeats 16000000 in
theorem dnsSmall_any (w : World) :
    Calls Try.prog 3 #[] w fun e w' => e = .returned (.bool true) ∧ Below w.heap.size w w' := by
  go_enter Try.func3, Try.ntmps3
  obtain ⟨i0, hI, hz0, hz1, hz2⟩ := info_parts Try.infoByte
  go_upto_region 2 with (go_at_call 5
                         refine (example2_at w).mono ?_
                         rintro e w1 ⟨A1, c1, x, rfl, hxm, hr1, hxr, hb1, hc1⟩
                         obtain ⟨idX, flX, qAX, qcX, qsX, aAX, acX, raX, bAX, bdX, rbX, cAX, ccX, rcX⟩ := x
                         unfold MR.cells
                         dsimp only)
  obtain ⟨X, hX⟩ : ∃ X : MR, X = ⟨idX, flX, qAX, qcX, qsX, aAX, acX, raX, bAX, bdX, rbX, cAX, ccX, rcX⟩ := ⟨_, rfl⟩
  have hXv : Vx (w1.alloc (.cells #[.int .u16 (idX : Int), .int .u16 (flX : Int), .slice qAX qsX.length qcX, .slice aAX raX.length acX, .slice bAX rbX.length bdX, .slice cAX rcX.length ccX] 28)) w1.heap.size 28 X.cells := by rw [hX]; exact Vx.new w1 _ _
  rw [← hX] at hxm hxr
  have hbA := below_new w1 (.cells #[.int .u16 (idX : Int), .int .u16 (flX : Int), .slice qAX qsX.length qcX, .slice aAX raX.length acX, .slice bAX rbX.length bdX, .slice cAX rcX.length ccX] 28)
  obtain ⟨G, hG⟩ : ∃ G, G = w1.heap.size := ⟨_, rfl⟩
  rw [← hG] at hXv
  try rw [← hG]
  generalize w1.alloc (.cells #[.int .u16 (idX : Int), .int .u16 (flX : Int), .slice qAX qsX.length qcX, .slice aAX raX.length acX, .slice bAX rbX.length bdX, .slice cAX rcX.length ccX] 28) = w2 at *
  have HXV := Lib.hid hXv
  have HXM := Lib.hid hxm
  have HXR := Lib.hid ((hxr.below hbA).more hbA.size)
  have HR1 := Lib.hid (hr1.goes hbA)
  have hb02 := hb1.trans (hbA.mono hb1.size)
  have HB02 := Lib.hid hb02
  clear hX hXv hxm hxr hr1 hbA hb1 hb02
  go_upto_region 3 with (first
    | (go_at_call 6
       have _t := tk4
       refine (reply_at 7 [0] (by simp) w6).mono ?_
       rintro e w7 ⟨Aw7, cw7, rfl, hcw7, hrw7, _, hbw7⟩
       have tk5 := True.intro
       have hz4 := (hz3).trans (hbw7.mono (hz3).size))
    | (go_at_call 6
       have _t := tk3
       refine (reply_at 8 [192, 31] (by simp) w5).mono ?_
       rintro e w6 ⟨Aw6, cw6, rfl, hcw6, hrw6, _, hbw6⟩
       have tk4 := True.intro
       have hz3 := (hz2).trans (hbw6.mono (hz2).size))
    | (go_at_call 6
       have _t := tk2
       refine (reply_at 8 [192, 12] (by simp) w4).mono ?_
       rintro e w5 ⟨Aw5, cw5, rfl, hcw5, hrw5, _, hbw5⟩
       have tk3 := True.intro
       have hz2 := (hz1).trans (hbw5.mono (hz1).size))
    | (go_at_call 6
       have _t := tk1
       refine (reply_at 10 [1, 104, 192, 15] (by simp) w3).mono ?_
       rintro e w4 ⟨Aw4, cw4, rfl, hcw4, hrw4, _, hbw4⟩
       have tk2 := True.intro
       have hz1 := (hz0).trans (hbw4.mono (hz0).size))
    | (go_at_call 6
       refine (reply_at 11 [1, 104, 1, 98, 0] (by simp) w2).mono ?_
       rintro e w3 ⟨Aw3, cw3, rfl, hcw3, hrw3, _, hbw3⟩
       have tk1 := True.intro
       have hz0 := (HB02.out).trans (hbw3.mono (HB02.out).size)))
  have hall : ∃ l : List Br, l.length = 6 ∧ Vx (w7.alloc (.cells #[.slice A1 22 c1, .slice Aw3 (DX.rep 11 [1, 104, 1, 98, 0]).length cw3, .slice Aw4 (DX.rep 10 [1, 104, 192, 15]).length cw4, .slice Aw5 (DX.rep 8 [192, 12]).length cw5, .slice Aw6 (DX.rep 8 [192, 31]).length cw6, .slice Aw7 (DX.rep 7 [0]).length cw7] 22)) w7.heap.size 22 (l.map Br.v) ∧ ∀ x ∈ l, x.ok w7 := by
    refine ⟨[⟨A1, c1, DX.qB⟩, ⟨Aw3, cw3, (DX.rep 11 [1, 104, 1, 98, 0])⟩, ⟨Aw4, cw4, (DX.rep 10 [1, 104, 192, 15])⟩, ⟨Aw5, cw5, (DX.rep 8 [192, 12])⟩, ⟨Aw6, cw6, (DX.rep 8 [192, 31])⟩, ⟨Aw7, cw7, (DX.rep 7 [0])⟩], rfl, Vx.new w7 22 _, fun x hx => ?_⟩
    have h57 := hbw4.trans ((hbw5.trans ((hbw6.trans (hbw7.mono hbw6.size)).mono hbw5.size)).mono hbw4.size)
    simp only [List.mem_cons, List.not_mem_nil, or_false] at hx
    rcases hx with rfl | rfl | rfl | rfl | rfl | rfl
    · exact ⟨HR1.out.goes (hbw3.trans (h57.mono hbw3.size)), hc1, by show 22 ≤ 200; omega⟩
    · exact ⟨hrw3.goes h57, hcw3, by simp [DX.rep, DX.hdr, DX.mid]⟩
    · exact ⟨hrw4.goes (hbw5.trans ((hbw6.trans (hbw7.mono hbw6.size)).mono hbw5.size)), hcw4, by simp [DX.rep, DX.hdr, DX.mid]⟩
    · exact ⟨hrw5.goes (hbw6.trans (hbw7.mono hbw6.size)), hcw5, by simp [DX.rep, DX.hdr, DX.mid]⟩
    · exact ⟨hrw6.goes hbw7, hcw6, by simp [DX.rep, DX.hdr, DX.mid]⟩
    · exact ⟨hrw7, hcw7, by simp [DX.rep, DX.hdr, DX.mid]⟩
  have h37 : Below w3.heap.size w3 w7 := hbw4.trans ((hbw5.trans ((hbw6.trans (hbw7.mono hbw6.size)).mono hbw5.size)).mono hbw4.size)
  have h27 : Below w2.heap.size w2 w7 := hbw3.trans (h37.mono hbw3.size)
  have hbB := below_new w7 (.cells #[.slice A1 22 c1, .slice Aw3 (DX.rep 11 [1, 104, 1, 98, 0]).length cw3, .slice Aw4 (DX.rep 10 [1, 104, 192, 15]).length cw4, .slice Aw5 (DX.rep 8 [192, 12]).length cw5, .slice Aw6 (DX.rep 8 [192, 31]).length cw6, .slice Aw7 (DX.rep 7 [0]).length cw7] 22)
  have h28 := h27.trans (hbB.mono h27.size)
  have hbA := hz4.trans (hbB.mono hz4.size)
  have hxv := HXV.out.below h28 HXV.out.lt
  have hxr := (HXR.out.below h28).more h28.size
  obtain ⟨l, hl6, hV, hL⟩ := hall
  have hLB : ∀ x ∈ l, x.ok (w7.alloc (.cells #[.slice A1 22 c1, .slice Aw3 (DX.rep 11 [1, 104, 1, 98, 0]).length cw3, .slice Aw4 (DX.rep 10 [1, 104, 192, 15]).length cw4, .slice Aw5 (DX.rep 8 [192, 12]).length cw5, .slice Aw6 (DX.rep 8 [192, 31]).length cw6, .slice Aw7 (DX.rep 7 [0]).length cw7] 22)) := fun x hx => (hL x hx).goes hbB
  have hTw : w7.heap.size < (w7.alloc (.cells #[.slice A1 22 c1, .slice Aw3 (DX.rep 11 [1, 104, 1, 98, 0]).length cw3, .slice Aw4 (DX.rep 10 [1, 104, 192, 15]).length cw4, .slice Aw5 (DX.rep 8 [192, 12]).length cw5, .slice Aw6 (DX.rep 8 [192, 31]).length cw6, .slice Aw7 (DX.rep 7 [0]).length cw7] 22)).heap.size := hV.lt
  obtain ⟨T, hT⟩ : ∃ T, T = w7.heap.size := ⟨_, rfl⟩
  have hTb : w.heap.size ≤ T := by rw [hT]; exact hz4.size
  rw [← hT] at hV hTw ⊢
  generalize w7.alloc (.cells #[.slice A1 22 c1, .slice Aw3 (DX.rep 11 [1, 104, 1, 98, 0]).length cw3, .slice Aw4 (DX.rep 10 [1, 104, 192, 15]).length cw4, .slice Aw5 (DX.rep 8 [192, 12]).length cw5, .slice Aw6 (DX.rep 8 [192, 31]).length cw6, .slice Aw7 (DX.rep 7 [0]).length cw7] 22) = W1 at *
  have HV := Lib.hid hV
  have HLB := Lib.hid hLB
  have HBA := Lib.hid hbA
  have HXV1 := Lib.hid hxv
  have HXR1 := Lib.hid hxr
  clear hV hLB hbA hxv hxr hL hbB h28 h27 h37 HXV HXR HR1 HB02 hT hz0 hz1 hz2 hz3 hz4 hbw3 hbw4 hbw5 hbw6 hbw7 hrw3 hrw4 hrw5 hrw6 hrw7
  go_wp2_with fail
  go_loopw [29] (fun vi wr => ∃ i : Nat, i ≤ 6 ∧ vi = .int .i64 i ∧ Hid (Below W1.heap.size W1 wr)) (fun vi _ => 6 - (intOf vi).toNat)
  case atStart => exact ⟨0, by omega, rfl, Lib.hid (Below.refl _ _)⟩
  case round =>
    obtain ⟨i, hi6, rfl, HB⟩ := hrel
    rcases Nat.lt_or_ge i 6 with hlt | hge
    · have hi : i < l.length := by omega
      have hrow := (HV.out.below HB.out hTw).rowB hi
      obtain ⟨x, hx⟩ : ∃ x, x = l[i] := ⟨_, rfl⟩
      have hok : x.ok W1 := HLB.out x (by rw [hx]; exact List.getElem_mem hi)
      rw [← hx] at hrow
      clear hx
      obtain ⟨A, c, b⟩ := x
      dsimp only at hrow
      obtain ⟨n, hn⟩ : ∃ n, n = b.length := ⟨_, rfl⟩
      have hrd : Rd W1 W1.heap.size A n (bc b) := by rw [hn]; exact hok.1
      have hnc : n ≤ c := by rw [hn]; exact hok.2.1
      have hn2 : n ≤ 200 := by rw [hn]; exact hok.2.2
      rw [← hn] at hrow
      have HRD := Lib.hid hrd
      have HN := Lib.hid hn.symm
      clear hok hrd hn
      have hi6i : (i : Int) < 6 := by omega
      go_wp2_with fail
      go_loopw [35] (fun vj wr => ∃ j : Nat, j ≤ n ∧ vj = .int .i64 j ∧ Hid (Below W1.heap.size W1 wr)) (fun vj _ => n - (intOf vj).toNat)
      case atStart => exact ⟨0, by omega, rfl, HB⟩
      case round =>
        obtain ⟨j, hjn, rfl, HBj⟩ := hrel
        rcases Nat.lt_or_ge j n with hltj | hgej
        · have hjni : (j : Int) < (n : Int) := by omega
          go_wp2_with fail
          have hvL := Vx.new wr 5 [.int .u8 0, .int .u8 1, .int .u8 2, .int .u8 12, .int .u8 15, .int .u8 33, .int .u8 192, .int .u8 255]
          have hbL := HBj.out.trans ((below_new wr (.cells ([.int .u8 0, .int .u8 1, .int .u8 2, .int .u8 12, .int .u8 15, .int .u8 33, .int .u8 192, .int .u8 255] : List Value).toArray 5)).mono HBj.out.size)
          have hLb := HBj.out.size
          obtain ⟨L, hL⟩ : ∃ L, L = wr.heap.size := ⟨_, rfl⟩
          rw [← hL] at hvL hLb ⊢
          generalize wr.alloc _ = W2 at hvL hbL ⊢
          have HVL := Lib.hid hvL
          have HBL := Lib.hid hbL
          have hLt := hvL.lt
          clear hvL hbL hL
          go_loopw [40] (fun vk wr => ∃ k : Nat, k ≤ 8 ∧ vk = .int .i64 k ∧ Hid (Below W2.heap.size W2 wr)) (fun vk _ => 8 - (intOf vk).toNat)
          case atStart => exact ⟨0, by omega, rfl, Lib.hid (Below.refl _ _)⟩
          case round =>
            obtain ⟨k, hk8, rfl, HBk⟩ := hrel
            have hbk := HBL.out.trans (HBk.out.mono HBL.out.size)
            have HBK := Lib.hid hbk
            rcases Nat.lt_or_ge k 8 with hltk | hgek
            · have hkk : (k : Int) < 8 := by omega
              obtain ⟨u, hu⟩ : ∃ u : UInt8, wr.cell? ⟨L, k, none⟩ = some (.int .u8 (u.toNat : Int)) := by
                rw [(HVL.out.below HBk.out hLt).cell k]
                rcases (show k = 0 ∨ k = 1 ∨ k = 2 ∨ k = 3 ∨ k = 4 ∨ k = 5 ∨ k = 6 ∨ k = 7 by omega) with rfl | rfl | rfl | rfl | rfl | rfl | rfl | rfl
                · exact ⟨0, rfl⟩
                · exact ⟨1, rfl⟩
                · exact ⟨2, rfl⟩
                · exact ⟨12, rfl⟩
                · exact ⟨15, rfl⟩
                · exact ⟨33, rfl⟩
                · exact ⟨192, rfl⟩
                · exact ⟨255, rfl⟩
              have K1 := Lib.hid (bclone_at A c n b wr wr.heap.size HN.out (Nat.le_refl _) (HRD.out.goes hbk) (by omega))
              clear hbk
              go_upto_region 14 with (go_at_call 7
                                      refine K1.out.mono ?_
                                      rintro e wa ⟨v1, rfl, ho1, hb1⟩
                                      obtain ⟨g, cap, rfl, hgc, hg1, hg2⟩ := own_some ho1 HN.out (by omega)
                                      have hoc := (own_at ho1 HN.out hltj).1
                                      have hof := (own_at ho1 HN.out hltj).2)
              have hp := put_own ho1 HN.out hltj u
              have hbS := hb1.setCell (show wr.heap.size ≤ (⟨g, j, none⟩ : Addr).block from hg1) (.int .u8 (u.toNat : Int))
              generalize wa.setCell _ _ = wb at hp hbS ⊢
              have HP := Lib.hid hp
              have HBS := Lib.hid hbS
              obtain ⟨b2, hb2⟩ : ∃ b2, b2 = b.set j u := ⟨_, rfl⟩
              have hn3 : b2.length = n := by rw [hb2, List.length_set]; exact HN.out
              rw [← hb2] at HP
              clear hp hbS hb2 ho1 hb1 hoc hof
              go_wp2_with (first
                | (go_at_call 8
                   have _t := tok3
                   refine (readsL hr4 (show (b2 ++ [0]).length = n + 1 by rw [List.length_append, hn3]; rfl) hl4 (by omega)).mono ?_
                   rintro e w5 ⟨rfl, hb5⟩
                   have hbf := hbx4.trans (hb5.mono hbx4.size))
                | (at_builtin
                   refine wpList_appH _ (by rfl) _ _ _ _ rfl wr.heap.size 5 i0 (.int .u8 0) 1 Try.underlying22 hI hz0 hz1 hz2 rfl (Nat.le_refl _) _ _ ((HP.out.far hb3).alloc _) rfl 1 (bc [0]) (lit_src Try.underlying22 _ _ 1 rfl (by simp [maxLen]) (bc_one _)) (by simp; omega) (by have := hbx3.size; simp; omega) ?_
                   intro v4 w4 ho4 hg4 hs4
                   rw [← bc_app] at ho4
                   obtain ⟨A4, c4, rfl, hl4, hr4⟩ := Ow.form7 ho4 (n + 1) (by rw [bc_length, List.length_append, hn3]; rfl)
                   have hbx4 := (hbx3.alloc hbx3.size _).trans (hg4.below (by intro g' hg'; simp only [Value.ownBlock, Option.some.injEq] at hg'; omega) (by have := hbx3.size; simp; omega))
                   have tok3 := True.intro)
                | (go_at_call 8
                   refine (readsL (HP.out.rd0 hn3) hn3 hgc (by omega)).mono ?_
                   rintro e w3 ⟨rfl, hb3⟩
                   have hbx3 := HBS.out.trans (hb3.mono HBS.out.size)))
              go_roundw
              case rel => exact ⟨k + 1, by omega, by go_num, Lib.hid (HBk.out.trans (hbf.mono HBk.out.size))⟩
              case measure => simp [intOf]; omega
            · have : k = 8 := by omega
              subst this
              clear hbk
              have hK8 : (8 : Int) ≤ ((8 : Nat) : Int) := by omega
              go_upto_region 17 with fail
              have hjc : j ≤ c := by omega
              have htl : (b.take j).length = j := by rw [List.length_take, HN.out]; omega
              have hrt : Rd wr wr.heap.size A j (bc (b.take j)) := rd_front (HRD.out.goes HBK.out) HN.out hjn
              have K3 := Lib.hid (readsL (w := wr.drew) (c := c) hrt htl hjc (by omega))
              have HRT := Lib.hid hrt
              have HTL := Lib.hid htl
              clear hrt htl
              refine wp_region_held_drew (S := fun _ => True) (by kernel_rfl) trivial (fun hH => ?_)
              refine reg_take 0 (v := ?_) rfl (by kernel_rfl) (fun _ _ _ h => h) (by rfl) trivial ?_ ?_
              rotate_left
              · intro w hSw; (try dsimp only at hSw); go_simp; (try with_reducible rfl)
              (try simp only [Act.put, List.setIfInBounds_toArray, List.set_cons_zero, List.set_cons_succ])
              refine reg_take 1 (v := ?_) rfl (by kernel_rfl) (fun _ _ _ h => h) (by rfl) trivial ?_ ?_
              rotate_left
              · intro w hSw; (try dsimp only at hSw); go_simp; (try with_reducible rfl)
              (try simp only [Act.put, List.setIfInBounds_toArray, List.set_cons_zero, List.set_cons_succ])
              refine reg_take 2 (v := ?_) rfl (by kernel_rfl) (fun _ _ _ h => h) (by rfl) trivial ?_ ?_
              rotate_left
              · intro w hSw; (try dsimp only at hSw); go_simp; (try with_reducible rfl)
              (try simp only [Act.put, List.setIfInBounds_toArray, List.set_cons_zero, List.set_cons_succ])
              refine wpAnyH_ready (rs := [3]) (by kernel_rfl) (by simp) ?_
              refine reg_cons _ rfl (fun K' hK => ?_) AllReadyH.nil
              go_simp
              go_at_call 8
              refine K3.out.mono ?_
              rintro e w3 ⟨rfl, hb3⟩
              (try dsimp only)
              refine hK.out _ _ trivial (fun hH => ?_)
              (try simp only [Act.put, List.setIfInBounds_toArray, List.set_cons_zero, List.set_cons_succ])
              clear hK
              refine reg_take 4 (v := ?_) rfl (by kernel_rfl) (fun _ _ _ h => h) (by rfl) trivial ?_ ?_
              rotate_left
              · intro w hSw; (try dsimp only at hSw); go_simp; (try with_reducible rfl)
              (try simp only [Act.put, List.setIfInBounds_toArray, List.set_cons_zero, List.set_cons_succ])
              refine reg_take 5 (v := ?_) rfl (by kernel_rfl) (fun _ _ _ h => h) (by rfl) trivial ?_ ?_
              rotate_left
              · intro w hSw; (try dsimp only at hSw); go_simp; (try with_reducible rfl)
              (try simp only [Act.put, List.setIfInBounds_toArray, List.set_cons_zero, List.set_cons_succ])
              refine reg_take 6 (v := ?_) rfl (by kernel_rfl) (fun _ _ _ h => h) (by rfl) trivial ?_ ?_
              rotate_left
              · intro w hSw; (try dsimp only at hSw); go_simp; (try with_reducible rfl)
              (try simp only [Act.put, List.setIfInBounds_toArray, List.set_cons_zero, List.set_cons_succ])
              refine reg_take 8 (v := ?_) rfl (by kernel_rfl) (fun _ _ _ h => h) (by rfl) trivial ?_ ?_
              rotate_left
              · intro w hSw; (try dsimp only at hSw); go_simp; (try with_reducible rfl)
              (try simp only [Act.put, List.setIfInBounds_toArray, List.set_cons_zero, List.set_cons_succ])
              refine reg_take 9 (v := ?_) rfl (by kernel_rfl) (fun _ _ _ h => h) (by rfl) trivial ?_ ?_
              rotate_left
              · intro w hSw; (try dsimp only at hSw); go_simp; (try with_reducible rfl)
              (try simp only [Act.put, List.setIfInBounds_toArray, List.set_cons_zero, List.set_cons_succ])
              refine reg_take 10 (v := ?_) rfl (by kernel_rfl) (fun _ _ _ h => h) (by rfl) trivial ?_ ?_
              rotate_left
              · intro w hSw; (try dsimp only at hSw); go_simp; (try with_reducible rfl)
              (try simp only [Act.put, List.setIfInBounds_toArray, List.set_cons_zero, List.set_cons_succ])
              have hb03 : Below wr.heap.size wr w3 := (show Below wr.heap.size wr wr.drew from (Below.refl _ _).drew).trans hb3
              have hb13 := HBK.out.trans (hb03.mono HBK.out.size)
              refine wpAnyH_ready (rs := [7]) (by kernel_rfl) (by simp) ?_
              refine reg_cons _ rfl (fun K' hK => ?_) AllReadyH.nil
              go_simp
              go_at_call 7
              refine (bclone_at A c n b w3 w3.heap.size HN.out (Nat.le_refl _) (HRD.out.goes hb13) (by omega)).mono ?_
              rintro e w4 ⟨v4, rfl, ho4, hb4⟩
              (try dsimp only)
              refine hK.out _ _ trivial (fun hH => ?_)
              (try simp only [Act.put, List.setIfInBounds_toArray, List.set_cons_zero, List.set_cons_succ])
              clear hK
              refine wpAnyH_ready (rs := [11]) (by kernel_rfl) (by simp) ?_
              refine reg_cons _ rfl (fun K' hK => ?_) AllReadyH.nil
              refine step_appH _ (by rfl) _ _ _ _ rfl w3.heap.size 5 i0 (.int .u8 0) 1 Try.underlying22 hI hz0 hz1 hz2 rfl (Nat.le_refl _) v4 _ ho4 rfl _ rfl j (bc (b.take j)) (((HRT.out.goes hb03).goes hb4).src Try.underlying22 (bc_one _)) (by rw [bc_length, HN.out]; omega) hb4.size ?_
              intro v5 w5 ho5 hg5 hs5
              rw [← bc_app] at ho5
              obtain ⟨A5, c5, rfl, hl5, hr5⟩ := Ow.form7 ho5 (n + j) (by rw [bc_length, List.length_append, HN.out, HTL.out])
              have hb05 := hb13.trans ((hb4.trans (hg5.below (fun g hg => ho4.lt g hg) hb4.size)).mono hb13.size)
              (try dsimp only)
              refine hK.out _ _ trivial (fun hH => ?_)
              (try simp only [Act.put, List.setIfInBounds_toArray, List.set_cons_zero, List.set_cons_succ])
              clear hK
              refine wpAnyH_ready (rs := [12]) (by kernel_rfl) (by simp) ?_
              refine reg_cons _ rfl (fun K' hK => ?_) AllReadyH.nil
              go_simp
              go_at_call 8
              refine (readsL hr5 (show (b ++ b.take j).length = n + j by rw [List.length_append, HN.out, HTL.out]) hl5 (by omega)).mono ?_
              rintro e w6 ⟨rfl, hb6⟩
              (try dsimp only)
              refine hK.out _ _ trivial (fun hH => ?_)
              (try simp only [Act.put, List.setIfInBounds_toArray, List.set_cons_zero, List.set_cons_succ])
              clear hK
              refine reg_take 13 (v := ?_) rfl (by kernel_rfl) (fun _ _ _ h => h) (by rfl) trivial ?_ ?_
              rotate_left
              · intro w hSw; (try dsimp only at hSw); go_simp; (try with_reducible rfl)
              (try simp only [Act.put, List.setIfInBounds_toArray, List.set_cons_zero, List.set_cons_succ])
              refine reg_take 14 (v := ?_) rfl (by kernel_rfl) (fun _ _ _ h => h) (by rfl) trivial ?_ ?_
              rotate_left
              · intro w hSw; (try dsimp only at hSw); go_simp; (try with_reducible rfl)
              (try simp only [Act.put, List.setIfInBounds_toArray, List.set_cons_zero, List.set_cons_succ])
              refine wpAnyH_done (by kernel_rfl) ?_ _
              have hbf := hb05.trans (hb6.mono hb05.size)
              go_wp2_with fail
              try simp only [Act.put]
              go_roundw
              case rel => exact ⟨j + 1, by omega, by go_num, Lib.hid hbf⟩
              case measure => simp [intOf]; omega
        · have : j = n := by omega
          subst this
          go_wp2_with fail
          go_roundw
          case rel => exact ⟨i + 1, by omega, by go_num, HBj⟩
          case measure => simp [intOf]; omega
    · have hiB : decide ((i : Int) < 6) = false := by simp only [decide_eq_false_iff_not]; omega
      obtain ⟨W8, hW8⟩ : ∃ x, x = wr := ⟨wr, rfl⟩
      subst hW8
      have hvL := Vx.new W8 23 [.int .u16 0, .int .u16 1, .int .u16 33, .int .u16 34, .int .u16 65535]
      have hbL := HB.out.trans ((below_new W8 (.cells #[.int .u16 0, .int .u16 1, .int .u16 33, .int .u16 34, .int .u16 65535] 23)).mono HB.out.size)
      have HVL := Lib.hid hvL
      have HBL := Lib.hid hbL
      clear hvL hbL
      have hcpy : Cpy X := by
        have h1 : X.m = DX.M := HXM.out
        have e0 : ∀ q ∈ X.qs, q.q ∈ DX.M.qs := fun q hq => by rw [← h1]; exact List.mem_map.2 ⟨q, hq, rfl⟩
        have e1 : ∀ q ∈ X.r0, q.r ∈ DX.M.r0 := fun q hq => by rw [← h1]; exact List.mem_map.2 ⟨q, hq, rfl⟩
        have e2 : ∀ q ∈ X.r1, q.r ∈ DX.M.r1 := fun q hq => by rw [← h1]; exact List.mem_map.2 ⟨q, hq, rfl⟩
        have e3 : ∀ q ∈ X.r2, q.r ∈ DX.M.r2 := fun q hq => by rw [← h1]; exact List.mem_map.2 ⟨q, hq, rfl⟩
        have k0 : ∀ q ∈ DX.M.qs, q.nm.length ≤ 10 := by decide
        have k1 : ∀ q ∈ DX.M.r0, q.q.nm.length ≤ 10 ∧ q.tg.length ≤ 10 := by decide
        have k2 : ∀ q ∈ DX.M.r1, q.q.nm.length ≤ 10 ∧ q.tg.length ≤ 10 := by decide
        have k3 : ∀ q ∈ DX.M.r2, q.q.nm.length ≤ 10 ∧ q.tg.length ≤ 10 := by decide
        refine ⟨fun q hq => by have := k0 _ (e0 q hq); omega, fun i r hr => ?_⟩
        have : r.r.q.nm.length ≤ 10 ∧ r.r.tg.length ≤ 10 := by
          match i, hr with
          | 0, hr => exact k1 _ (e1 r hr)
          | 1, hr => exact k2 _ (e2 r hr)
          | k + 2, hr => exact k3 _ (e3 r hr)
        omega
      have HCX := Lib.hid hcpy
      clear hcpy
      go_wp2_with fail
      obtain ⟨KB, hKB⟩ : ∃ x, x = W8.heap.size := ⟨_, rfl⟩
      rw [← hKB] at HVL ⊢
      clear hKB
      generalize W8.alloc (.cells #[.int .u16 0, .int .u16 1, .int .u16 33, .int .u16 34, .int .u16 65535] 23) = W9 at HVL HBL ⊢
      go_loopw [80] (fun vk wr => ∃ a : Nat, a ≤ 5 ∧ vk = .int .i64 a ∧ Hid (Below W9.heap.size W9 wr)) (fun vk _ => 5 - (intOf vk).toNat)
      case atStart => exact ⟨0, by omega, rfl, Lib.hid (Below.refl _ _)⟩
      case round =>
        obtain ⟨a, ha5, rfl, HA⟩ := hrel
        rcases Nat.lt_or_ge a 5 with hlta | hgea
        · have haB : decide ((a : Int) < 5) = true := by simp only [decide_eq_true_eq]; omega
          have haI : (a : Int) < 5 := by omega
          obtain ⟨kd, hkd, hkc⟩ : ∃ kd : Nat, kd < 65536 ∧ wr.cell? ⟨KB, a, none⟩ = some (.int .u16 (kd : Int)) := by
            rw [(HVL.out.below HA.out HVL.out.lt).cell a]
            rcases (show a = 0 ∨ a = 1 ∨ a = 2 ∨ a = 3 ∨ a = 4 by omega) with rfl | rfl | rfl | rfl | rfl
            · exact ⟨0, by omega, rfl⟩
            · exact ⟨1, by omega, rfl⟩
            · exact ⟨33, by omega, rfl⟩
            · exact ⟨34, by omega, rfl⟩
            · exact ⟨65535, by omega, rfl⟩
          go_wp2_with fail
          clear hkc
          go_loopw [84] (fun vk wr => ∃ n : Nat, n ≤ 9 ∧ vk = .int .i64 n ∧ Hid (Below W9.heap.size W9 wr)) (fun vk _ => 9 - (intOf vk).toNat)
          case atStart => exact ⟨0, by omega, rfl, HA⟩
          case round =>
            obtain ⟨n, hn9, rfl, HN9⟩ := hrel
            rcases Nat.lt_or_ge n 9 with hltn | hgen
            · have hnB : decide ((n : Int) < 9) = true := by simp only [decide_eq_true_eq]; omega
              have HXv := Lib.hid (HXV1.out.below (HBL.out.trans (HN9.out.mono HBL.out.size)) HXV1.out.lt)
              have HXr := Lib.hid ((HXR1.out.below (HBL.out.trans (HN9.out.mono HBL.out.size))).more (HBL.out.trans (HN9.out.mono HBL.out.size)).size)
              obtain ⟨r3, hr3⟩ : ∃ i, i = n % 3 := ⟨_, rfl⟩
              obtain ⟨r2, hr2⟩ : ∃ i, i = n % 2 := ⟨_, rfl⟩
              obtain ⟨s2, hs2⟩ : ∃ i, i = r3 % 2 := ⟨_, rfl⟩
              obtain ⟨q8, hq8⟩ : ∃ i, i = n / 8 := ⟨_, rfl⟩
              obtain ⟨tl, htl⟩ : ∃ i, i = s2 + q8 := ⟨_, rfl⟩
              have a1 : (n : Int) % 3 = (r3 : Int) := by omega
              have a1' : (n : Int).tmod 3 = (r3 : Int) := by rw [Int.tmod_eq_emod_of_nonneg (by omega)]; exact a1
              have a2 : (n : Int) % 2 = (r2 : Int) := by omega
              have a2' : (n : Int).tmod 2 = (r2 : Int) := by rw [Int.tmod_eq_emod_of_nonneg (by omega)]; exact a2
              have a3 : (r3 : Int) % 2 = (s2 : Int) := by omega
              have a3' : (r3 : Int).tmod 2 = (s2 : Int) := by rw [Int.tmod_eq_emod_of_nonneg (by omega)]; exact a3
              have a4 : (n : Int) / 8 = (q8 : Int) := by omega
              have a4' : (n : Int).tdiv 8 = (q8 : Int) := by rw [Int.tdiv_eq_ediv_of_nonneg (by omega)]; exact a4
              have a5 : (s2 : Int) + (q8 : Int) = (tl : Int) := by omega
              have b1 : r3 < 3 := by omega
              have b2 : tl ≤ 1 := by omega
              have b3 : r2 < 2 := by omega
              have n1 : n % 3 = r3 := hr3.symm
              have n2 : n % 2 = r2 := hr2.symm
              have n3 : r3 % 2 = s2 := hs2.symm
              have n4 : n / 8 = q8 := hq8.symm
              have n5 : s2 + q8 = tl := htl.symm
              have wq8 : IntKind.i64.wrap (q8 : Int) = (q8 : Int) := by rw [IntKind.wrap_i64]; omega
              have wtl : IntKind.i64.wrap (tl : Int) = (tl : Int) := by rw [IntKind.wrap_i64]; omega
              have wn : IntKind.u16.wrap (n : Int) = (n : Int) := by rw [IntKind.wrap_u16]; omega
              have wr2 : IntKind.u16.wrap (r2 : Int) = (r2 : Int) := by rw [IntKind.wrap_u16]; omega
              clear hr3 hr2 hs2 hq8 htl
              have kmk : ∀ V : World, (Instr.makeSlice 22 (.int .i64 (n : Int)) (.int .i64 (n : Int))).run Try.prog V = .ok (.slice (some ⟨V.heap.size, 0, none⟩) n n) (V.alloc (.cells (bc (List.replicate n 0)).toArray 5)) := make_bytes n (by omega)
              have ksl : ∀ (V : World) (A : Option Addr), (Instr.slice 36 (.slice A 2 2) none (some (.int .i64 (tl : Int))) none).run Try.prog V = .ok (.slice A tl 2) V := fun V A => run_sl_h (P := Try.prog) V 36 9 Try.underlying36 szStr A 2 2 tl (by omega)
              have hr3I : (r3 : Int) < 3 := by omega
              have htlI : (tl : Int) ≤ 2 := by omega
              obtain ⟨W10, hW10, hb10, v13, v14, va0, va1⟩ := Ds.start27 wr kd n
              go_upto_region 29 with fail
              rw [← hW10]
              obtain ⟨g14, hg14⟩ : ∃ x, x = wr.heap.size + 1 + 1 + 1 := ⟨_, rfl⟩
              obtain ⟨g13, hg13⟩ : ∃ x, x = wr.heap.size + 1 + 1 := ⟨_, rfl⟩
              obtain ⟨a1_, ha1_⟩ : ∃ x, x = wr.heap.size + 1 := ⟨_, rfl⟩
              obtain ⟨a0, ha0⟩ : ∃ x, x = wr.heap.size := ⟨_, rfl⟩
              rw [← hg14] at v14 ⊢
              rw [← hg13] at v13 ⊢
              rw [← ha1_] at v13 va1
              rw [← ha0] at v13 va0
              have c13 : a0 ≠ g14 ∧ a1_ ≠ g14 ∧ g13 ≠ g14 ∧ wr.heap.size ≤ g14 := by omega
              clear hW10 hg14 hg13 ha1_ ha0
              have HV13 := Lib.hid v13
              have HV14 := Lib.hid v14
              have HA0 := Lib.hid va0
              have HA1 := Lib.hid va1
              have HB10 := Lib.hid hb10
              clear v13 v14 va0 va1 hb10
              refine wp_region_held_drew (S := fun W => Vx W g13 41 [.slice (some ⟨a0, 0, none⟩) 1 1, .int .u16 (kd : Int), .int .u16 (n : Int), .int .u32 4294967295, .slice (some ⟨a1_, 0, none⟩) n n, .int .u16 0, .int .u16 0, .int .u16 0, .slice none 0 0]) (by kernel_rfl) HV13.out.drew (fun hH => ?_)
              refine reg_take 0 (v := ?_) rfl (by kernel_rfl) (fun _ _ _ h => h) (by rfl) hH ?_ ?_
              rotate_left
              · intro w hSw; (try dsimp only at hSw); go_simp; (try with_reducible rfl)
              (try simp only [Act.put, List.setIfInBounds_toArray, List.set_cons_zero, List.set_cons_succ])
              refine reg_take 1 (v := ?_) rfl (by kernel_rfl) (fun _ _ _ h => h) (by rfl) hH ?_ ?_
              rotate_left
              · intro w hSw; (try dsimp only at hSw); go_simp; (try with_reducible rfl)
              (try simp only [Act.put, List.setIfInBounds_toArray, List.set_cons_zero, List.set_cons_succ])
              refine reg_load 2 rfl (by kernel_rfl) 41 _ (by rfl) g13 41 [.slice (some ⟨a0, 0, none⟩) 1 1, .int .u16 (kd : Int), .int .u16 (n : Int), .int .u32 4294967295, .slice (some ⟨a1_, 0, none⟩) n n, .int .u16 0, .int .u16 0, .int .u16 0, .slice none 0 0] _ (fun _ _ _ h => h) (by rfl) hH (by rfl) (fun _ h => h) Try.underlying41 (by rfl) (by kernel_rfl) ?_
              (try simp only [Act.put, List.setIfInBounds_toArray, List.set_cons_zero, List.set_cons_succ])
              refine reg_take 3 (v := ?_) rfl (by kernel_rfl) (fun _ _ _ h => h) (by rfl) hH ?_ ?_
              rotate_left
              · intro w hSw; (try dsimp only at hSw); go_simp; (try with_reducible rfl)
              (try simp only [Act.put, List.setIfInBounds_toArray, List.set_cons_zero, List.set_cons_succ])
              refine reg_take 4 (v := ?_) rfl (by kernel_rfl) (fun _ _ _ h => h) (by rfl) hH ?_ ?_
              rotate_left
              · intro w hSw; (try dsimp only at hSw); go_simp; (try with_reducible rfl)
              (try simp only [Act.put, List.setIfInBounds_toArray, List.set_cons_zero, List.set_cons_succ])
              refine reg_take 5 (v := ?_) rfl (by kernel_rfl) (fun _ _ _ h => h) (by rfl) hH ?_ ?_
              rotate_left
              · intro w hSw; (try dsimp only at hSw); go_simp; (try with_reducible rfl)
              (try simp only [Act.put, List.setIfInBounds_toArray, List.set_cons_zero, List.set_cons_succ])
              refine reg_take 6 (v := ?_) rfl (by kernel_rfl) (fun _ _ _ h => h) (by rfl) hH ?_ ?_
              rotate_left
              · intro w hSw; (try dsimp only at hSw); go_simp; (try with_reducible rfl)
              (try simp only [Act.put, List.setIfInBounds_toArray, List.set_cons_zero, List.set_cons_succ])
              refine reg_take 7 (v := ?_) rfl (by kernel_rfl) (fun _ _ _ h => h) (by rfl) hH ?_ ?_
              rotate_left
              · intro w hSw; (try dsimp only at hSw); go_simp; (try with_reducible rfl)
              (try simp only [Act.put, List.setIfInBounds_toArray, List.set_cons_zero, List.set_cons_succ])
              refine reg_take 9 (v := ?_) rfl (by kernel_rfl) (fun _ _ _ h => h) (by rfl) hH ?_ ?_
              rotate_left
              · intro w hSw; (try dsimp only at hSw); go_simp; (try with_reducible rfl)
              (try simp only [Act.put, List.setIfInBounds_toArray, List.set_cons_zero, List.set_cons_succ])
              refine reg_take 10 (v := ?_) rfl (by kernel_rfl) (fun _ _ _ h => h) (by rfl) hH ?_ ?_
              rotate_left
              · intro w hSw; (try dsimp only at hSw); go_simp; (try with_reducible rfl)
              (try simp only [Act.put, List.setIfInBounds_toArray, List.set_cons_zero, List.set_cons_succ])
              refine reg_take 11 (v := ?_) rfl (by kernel_rfl) (fun _ _ _ h => h) (by rfl) hH ?_ ?_
              rotate_left
              · intro w hSw; (try dsimp only at hSw); go_simp; (try with_reducible rfl)
              (try simp only [Act.put, List.setIfInBounds_toArray, List.set_cons_zero, List.set_cons_succ])
              refine reg_take 12 (v := ?_) rfl (by kernel_rfl) (fun _ _ _ h => h) (by rfl) hH ?_ ?_
              rotate_left
              · intro w hSw; (try dsimp only at hSw); go_simp; (try with_reducible rfl)
              (try simp only [Act.put, List.setIfInBounds_toArray, List.set_cons_zero, List.set_cons_succ])
              refine reg_take 13 (v := ?_) rfl (by kernel_rfl) (fun _ _ _ h => h) (by rfl) hH ?_ ?_
              rotate_left
              · intro w hSw; (try dsimp only at hSw); go_simp; (try with_reducible rfl)
              (try simp only [Act.put, List.setIfInBounds_toArray, List.set_cons_zero, List.set_cons_succ])
              refine reg_take 14 (v := ?_) rfl (by kernel_rfl) (fun _ _ _ h => h) (by rfl) hH ?_ ?_
              rotate_left
              · intro w hSw; (try dsimp only at hSw); go_simp; (try with_reducible rfl)
              (try simp only [Act.put, List.setIfInBounds_toArray, List.set_cons_zero, List.set_cons_succ])
              refine reg_take 18 (v := ?_) rfl (by kernel_rfl) (fun _ _ _ h => h) (by rfl) hH ?_ ?_
              rotate_left
              · intro w hSw; (try dsimp only at hSw); go_simp; (try with_reducible rfl)
              (try simp only [Act.put, List.setIfInBounds_toArray, List.set_cons_zero, List.set_cons_succ])
              refine wpAnyH_ready (rs := [8]) (by kernel_rfl) (by simp) ?_
              refine reg_cons 8 rfl (fun K' hK => ?_) AllReadyH.nil
              go_simp
              refine hK.out _ _ (HV13.out.drew.alloc (.cells #[.string ⟨#[116]⟩, .string ⟨#[]⟩] 9)) (fun hH => ?_)
              (try simp only [Act.put, List.setIfInBounds_toArray, List.set_cons_zero, List.set_cons_succ])
              clear hK
              refine reg_take 15 (v := ?_) rfl (by kernel_rfl) (fun _ _ _ h => h) (by rfl) hH ?_ ?_
              rotate_left
              · intro w hSw; (try dsimp only at hSw); go_simp; (try with_reducible rfl)
              (try simp only [Act.put, List.setIfInBounds_toArray, List.set_cons_zero, List.set_cons_succ])
              refine reg_take 16 (v := ?_) rfl (by kernel_rfl) (fun _ _ _ h => h) (by rfl) hH ?_ ?_
              rotate_left
              · intro w hSw; (try dsimp only at hSw); go_simp; (try with_reducible rfl)
              (try simp only [Act.put, List.setIfInBounds_toArray, List.set_cons_zero, List.set_cons_succ])
              refine wpAnyH_ready (rs := [17]) (by kernel_rfl) (by simp) ?_
              refine reg_cons 17 rfl (fun K' hK => ?_) AllReadyH.nil
              go_simp
              refine hK.out _ _ ((HV13.out.drew.alloc (.cells #[.string ⟨#[116]⟩, .string ⟨#[]⟩] 9)).alloc (.cells #[.slice (some ⟨a0, 0, none⟩) 1 1, .int .u16 (kd : Int), .int .u16 (n : Int), .int .u32 4294967295, .slice (some ⟨a1_, 0, none⟩) n n, .int .u16 0, .int .u16 0, .int .u16 0, .slice none 0 0, .slice none 0 0, .int .u16 (kd : Int), .int .u16 1, .int .u32 0, .slice none 0 0, .int .u16 0, .int .u16 0, .int .u16 (r2 : Int), .slice (some ⟨W10.heap.size, 0, none⟩) tl 2] 41)) (fun hH => ?_)
              (try simp only [Act.put, List.setIfInBounds_toArray, List.set_cons_zero, List.set_cons_succ])
              clear hK
              refine reg_take 19 (v := ?_) rfl (by kernel_rfl) (fun _ _ _ h => h) (by rfl) hH ?_ ?_
              rotate_left
              · intro w hSw; (try dsimp only at hSw); go_simp; (try with_reducible rfl)
              (try simp only [Act.put, List.setIfInBounds_toArray, List.set_cons_zero, List.set_cons_succ])
              refine wpAnyH_ready (rs := [20]) (by kernel_rfl) (by simp) ?_
              refine reg_cons 20 rfl (fun K' hK => ?_) AllReadyH.nil
              have VM := (HV14.out.drew.alloc (.cells #[.string ⟨#[116]⟩, .string ⟨#[]⟩] 9)).alloc (.cells #[.slice (some ⟨a0, 0, none⟩) 1 1, .int .u16 (kd : Int), .int .u16 (n : Int), .int .u32 4294967295, .slice (some ⟨a1_, 0, none⟩) n n, .int .u16 0, .int .u16 0, .int .u16 0, .slice none 0 0, .slice none 0 0, .int .u16 (kd : Int), .int .u16 1, .int .u32 0, .slice none 0 0, .int .u16 0, .int .u16 0, .int .u16 (r2 : Int), .slice (some ⟨W10.heap.size, 0, none⟩) tl 2] 41)
              have r3c : (Ds.mrowK Ds.nilR)[3 + r3]? = some (.slice none 0 0) := by
                rcases (show r3 = 0 ∨ r3 = 1 ∨ r3 = 2 by omega) with h | h | h <;> subst h <;> rfl
              have r3d := VM.cell (3 + r3)
              rw [r3c] at r3d
              have f3 := VM.free (3 + r3)
              have VN := (HV14.out.alloc (.cells #[.string ⟨#[116]⟩, .string ⟨#[]⟩] 9)).alloc (.cells #[.slice (some ⟨a0, 0, none⟩) 1 1, .int .u16 (kd : Int), .int .u16 (n : Int), .int .u32 4294967295, .slice (some ⟨a1_, 0, none⟩) n n, .int .u16 0, .int .u16 0, .int .u16 0, .slice none 0 0, .slice none 0 0, .int .u16 (kd : Int), .int .u16 1, .int .u32 0, .slice none 0 0, .int .u16 0, .int .u16 0, .int .u16 (r2 : Int), .slice (some ⟨W10.heap.size, 0, none⟩) tl 2] 41)
              have r3e := VN.cell (3 + r3)
              rw [r3c] at r3e
              have f3e := VN.free (3 + r3)
              clear VM VN r3c
              go_simp
              refine hK.out _ _ (((HV13.out.drew.alloc (.cells #[.string ⟨#[116]⟩, .string ⟨#[]⟩] 9)).alloc (.cells #[.slice (some ⟨a0, 0, none⟩) 1 1, .int .u16 (kd : Int), .int .u16 (n : Int), .int .u32 4294967295, .slice (some ⟨a1_, 0, none⟩) n n, .int .u16 0, .int .u16 0, .int .u16 0, .slice none 0 0, .slice none 0 0, .int .u16 (kd : Int), .int .u16 1, .int .u32 0, .slice none 0 0, .int .u16 0, .int .u16 0, .int .u16 (r2 : Int), .slice (some ⟨W10.heap.size, 0, none⟩) tl 2] 41)).setO c13.2.2.1 (3 + r3) (.slice (some ⟨W10.heap.size + 1, 0, none⟩) 2 2)) (fun hH => ?_)
              clear hK
              refine wpAnyH_done (by kernel_rfl) ?_ _
              clear hH r3d f3 r3e f3e
              obtain ⟨W11, rs, hW11, hk11, hm11, hc11, hb11, hv11⟩ := Ds.mem29 W10 g14 a0 a1_ kd n r2 tl r3 HV14.out HA0.out HA1.out c13.1 c13.2.1 b1 b2 hkd hltn (by omega)
              rw [← hW11]
              have hb1112 : Below W11.heap.size W11 W11.drew := (Below.refl _ _).drew
              have hb1012 : Below wr.heap.size W10 W11.drew := (hb11 wr.heap.size c13.2.2.2 HB10.out.size).drew
              have hk12 := hk11.drew
              have hm12 := (hm11.below hb1112).more hb1112.size
              generalize W11.drew = W12 at hb1012 hk12 hm12 ⊢
              clear hW11 hk11 hm11 hb11 hv11 hb1112
              have HB12 := Lib.hid (HB10.out.trans hb1012)
              have hx12 : Vx W12 G 28 [.int .u16 (X.id : Int), .int .u16 (X.fl : Int), .slice X.qA X.qs.length X.qc, .slice X.aA X.r0.length X.ac, .slice X.bA X.r1.length X.bc, .slice X.cA X.r2.length X.cc] := HXv.out.below HB12.out HXv.out.lt
              rw [hG] at hx12
              have HXR12 := Lib.hid ((HXr.out.below HB12.out).more HB12.out.size)
              have hk12' : Vx W12 g14 28 [.int .u16 0, .int .u16 65535, .slice none 0 0, .slice (rs 0).A (rs 0).l.length (rs 0).c, .slice (rs 1).A (rs 1).l.length (rs 1).c, .slice (rs 2).A (rs 2).l.length (rs 2).c] := hk12
              have HX12 := Lib.hid hx12
              have HK12 := Lib.hid hk12'
              have HM12 := Lib.hid hm12
              have HC12 := Lib.hid hc11
              have KX1 := Lib.hid (writes_at (Ds.mrK rs) X none 0 0 [] kd W12 HM12.out HXR12.out HC12.out HCX.out rfl ⟨Rd.nil _ _ _, Nat.le_refl _, by show sizeN [] ≤ _; decide⟩ hkd)
              have KX2 := Lib.hid (fun (V : World) (hV : Below W12.heap.size W12 V) (A : Option Addr) (hn : NRd V V.heap.size A 2 [[95, 97], [98]]) => writes_at X (Ds.mrK rs) A 2 2 [[95, 97], [98]] kd V ((HXR12.out.below hV).more hV.size) ((HM12.out.below hV).more hV.size) HCX.out HC12.out rfl hn hkd)
              have KX3 := Lib.hid (fun (V : World) (hV : Below W12.heap.size W12 V) (A : Option Addr) (hn : NRd V V.heap.size A 1 [[97]]) => writes_at (Ds.mrK rs) (Ds.mrK rs) A 1 1 [[97]] kd V ((HM12.out.below hV).more hV.size) ((HM12.out.below hV).more hV.size) HC12.out HC12.out rfl hn hkd)
              obtain ⟨k0, k1, k2, k3, k4, k5⟩ := HK12.out.c6
              obtain ⟨x0, x1, x2, x3, x4, x5⟩ := HX12.out.c6
              clear hk12 hk12' hm12 hc11 hb1012 hx12
              go_upto_region 32 with (first
                | (go_at_call 9; (
                   refine (KX3.out (w4.alloc (.cells #[.string ⟨#[97]⟩] 9)) (HB4.out.alloc HB4.out.size _) (some ⟨w4.heap.size, 0, none⟩) ⟨(Vx.new w4 9 (sc [[97]])).rdV rfl, Nat.le_refl _, by show sizeN [[97]] ≤ _; decide⟩).mono ?_
                   rintro e w5 ⟨rfl, hb5⟩
                   have HB5 := Lib.hid ((HB4.out.alloc HB4.out.size (.cells #[.string ⟨#[97]⟩] 9)).trans (hb5.mono (HB4.out.alloc HB4.out.size (.cells #[.string ⟨#[97]⟩] 9)).size))
                   clear hb5))
                | (go_at_call 9; (
                   refine (KX2.out (w3.alloc (.cells #[.string ⟨#[95, 97]⟩, .string ⟨#[98]⟩] 9)) (HB3.out.alloc HB3.out.size _) (some ⟨w3.heap.size, 0, none⟩) ⟨(Vx.new w3 9 (sc [[95, 97], [98]])).rdV rfl, Nat.le_refl _, by show sizeN [[95, 97], [98]] ≤ _; decide⟩).mono ?_
                   rintro e w4 ⟨rfl, hb4⟩
                   have HB4 := Lib.hid ((HB3.out.alloc HB3.out.size (.cells #[.string ⟨#[95, 97]⟩, .string ⟨#[98]⟩] 9)).trans (hb4.mono (HB3.out.alloc HB3.out.size (.cells #[.string ⟨#[95, 97]⟩, .string ⟨#[98]⟩] 9)).size))
                   obtain ⟨l0, l1, l2, l3, l4, l5⟩ := (HK12.out.below HB4.out HK12.out.lt).c6
                   clear hb4))
                | (go_at_call 9; (
                   refine KX1.out.mono ?_
                   rintro e w3 ⟨rfl, hb3⟩
                   have HB3 := Lib.hid hb3
                   obtain ⟨j0, j1, j2, j3, j4, j5⟩ := (HK12.out.below HB3.out HK12.out.lt).c6
                   obtain ⟨y0, y1, y2, y3, y4, y5⟩ := (HX12.out.below HB3.out HX12.out.lt).c6
                   clear hb3)))
              have hrl : (DX.rep 0 []).length = 40 := by simp [DX.rep, DX.hdr, DX.mid]
              obtain ⟨nb, hnb⟩ : ∃ nb : UInt8, nb.toNat = n := ⟨UInt8.ofNat n, by rw [UInt8.toNat_ofNat']; omega⟩
              have wn8 : IntKind.u8.wrap (n : Int) = (n : Int) := by rw [IntKind.wrap_u8]; omega
              obtain ⟨R33, hR33⟩ : ∃ l, l = (DX.rep 0 []).take 33 := ⟨_, rfl⟩
              have hR33l : R33.length = 33 := by rw [hR33, List.length_take, hrl]; rfl
              have HNB := Lib.hid hnb
              have HRL := Lib.hid hrl
              have HR33 := Lib.hid hR33
              have HR33L := Lib.hid hR33l
              clear hnb hrl hR33 hR33l
              go_upto_region 33 with (first
                | (at_builtin; (
                   refine Ds.wpList_appG _ rfl _ _ _ _ rfl w6.heap.size 1 5 i0 (.int .u8 0) 1 Try.underlying22 hI hz0 hz1 hz2 rfl (Nat.le_refl _) (Nat.le_refl _) A6 33 (bc R33) rfl (HR6.out.below (below_new w6 _)) _ rfl 1 [.int .u8 (n : Int)] (lit_src Try.underlying22 _ _ 1 rfl (by simp [maxLen]) (fun u hu => by rw [List.mem_singleton.1 hu]; rfl)) (by omega) (by omega) ?_
                   intro v7 w7 ho7 hb7
                   have HO7 := Lib.hid ho7
                   have HB7 := Lib.hid ((HB6.out.alloc HB6.out.size (.cells #[.int .u8 (n : Int)] 5)).trans (hb7.mono (HB6.out.alloc HB6.out.size (.cells #[.int .u8 (n : Int)] 5)).size))
                   clear ho7 hb7))
                | (go_at_call 6; (
                   refine (reply_at 0 [] (by simp) w5).mono ?_
                   rintro e w6 ⟨A6, c6, rfl, hc6, hr6, _, hb6⟩
                   rw [HRL.out] at hc6 hr6 ⊢
                   have ksl3 : ∀ V, (Instr.slice 22 (.slice A6 40 c6) none (some (.int .i64 33)) (some (.int .i64 33))).run Try.prog V = .ok (.slice A6 33 33) V := fun V => Ds.run_sl_hm (P := Try.prog) V 22 5 1 Try.underlying22 szByte A6 40 c6 33 (by omega)
                   have HB6 := Lib.hid (HB5.out.trans (hb6.mono HB5.out.size))
                   have HR6 := Lib.hid (show Rd w6 w6.heap.size A6 33 (bc R33) from by rw [HR33.out]; exact rd_front hr6 HRL.out (by omega))
                   clear hb6 hr6)))
              have HB7w := Lib.hid (HB12.out.trans (HB7.out.mono HB12.out.size))
              have hlen : (R33 ++ [nb]).length = 34 := by rw [List.length_append, HR33L.out]; rfl
              have ho8 : Ow w7 wr.heap.size 5 v7 (bc (R33 ++ [nb])) := by
                have e : bc (R33 ++ [nb]) = bc R33 ++ [.int .u8 (n : Int)] := by rw [bc_app]; simp [bc, HNB.out]
                have el : (bc (R33 ++ [nb])).length = 34 := by rw [bc_length, hlen]
                unfold Ow
                rw [el, e]
                exact OwM.mono HO7.out (by have h1 := HB12.out.size; have h2 := HB6.out.size; simp; omega)
              obtain ⟨g7, cap7, rfl, hcap, hg7, hg7l⟩ := own_some ho8 hlen (by omega)
              obtain ⟨y24, c24⟩ : ∃ y, w7.cell? ⟨g7, 24, none⟩ = some y := ⟨_, (own_at ho8 hlen (show 24 < 34 by omega)).1⟩
              have f24 : w7.frozen? ⟨g7, 24, none⟩ = false := (own_at ho8 hlen (show 24 < 34 by omega)).2
              obtain ⟨y25, c25⟩ : ∃ y, w7.cell? ⟨g7, 25, none⟩ = some y := ⟨_, (own_at ho8 hlen (show 25 < 34 by omega)).1⟩
              have f25 : w7.frozen? ⟨g7, 25, none⟩ = false := (own_at ho8 hlen (show 25 < 34 by omega)).2
              have HO8 := Lib.hid ho8
              have HLEN := Lib.hid hlen
              clear ho8 hlen HO7
              go_upto_region 34 with fail
              obtain ⟨u1_, hu1⟩ : ∃ u : UInt8, (u.toNat : Int) = (kd : Int) / 256 := ⟨UInt8.ofNat (kd / 256), by rw [UInt8.toNat_ofNat']; omega⟩
              obtain ⟨u2_, hu2⟩ : ∃ u : UInt8, (u.toNat : Int) = (kd : Int) % 256 := ⟨UInt8.ofNat kd, by rw [UInt8.toNat_ofNat']; omega⟩
              have ho9 := put_own (put_own HO8.out HLEN.out (show 24 < 34 by omega) u1_) (by rw [List.length_set]; exact HLEN.out) (show 25 < 34 by omega) u2_
              rw [hu1, hu2] at ho9
              obtain ⟨b9, hb9⟩ : ∃ b, b = ((R33 ++ [nb]).set 24 u1_).set 25 u2_ := ⟨_, rfl⟩
              have hl9 : b9.length = 34 := by rw [hb9, List.length_set, List.length_set]; exact HLEN.out
              rw [← hb9] at ho9
              have hbl9 := (HB7w.out.setCell (p := ⟨g7, 24, none⟩) hg7 (.int .u8 ((kd : Int) / 256))).setCell (p := ⟨g7, 25, none⟩) hg7 (.int .u8 ((kd : Int) % 256))
              generalize (w7.setCell ⟨g7, 24, none⟩ (.int .u8 ((kd : Int) / 256))).setCell ⟨g7, 25, none⟩ (.int .u8 ((kd : Int) % 256)) = w8 at ho9 hbl9 ⊢
              have HO9 := Lib.hid ho9
              have HL9 := Lib.hid hl9
              have HB9 := Lib.hid hbl9
              clear hu1 hu2 ho9 hb9 hl9 hbl9 c24 c25 f24 f25
              go_wp2_with (first
                | (go_at_call 8; (
                   refine (readsL HR13.out (show (b9 ++ [0, 0, 0, 0, 0, 0, 192, 12]).length = 42 by rw [List.length_append, HL9.out]; rfl) hc13 (by omega)).mono ?_
                   rintro e w14 ⟨rfl, hb14⟩
                   have HB14 := Lib.hid (HB13.out.trans (hb14.mono HB13.out.size))
                   clear hb14))
                | (at_builtin; (
                   refine wpList_appH _ (by rfl) _ _ _ _ rfl wr.heap.size 5 i0 (.int .u8 0) 1 Try.underlying22 hI hz0 hz1 hz2 rfl (Nat.le_refl _) _ _ (HK11.out.alloc _) rfl 8 (bc [0, 0, 0, 0, 0, 0, 192, 12]) (lit_src Try.underlying22 _ _ 8 rfl (by simp [maxLen]) (bc_one _)) (by rw [bc_length, HL9.out]; omega) (by have := HB11.out.size; simp; omega) ?_
                   intro v13 w13 ho13 hg13 hs13
                   rw [← bc_app] at ho13
                   obtain ⟨A13, c13, rfl, hc13, hr13⟩ := Ow.form7 ho13 42 (by rw [bc_length, List.length_append, HL9.out]; rfl)
                   have HR13 := Lib.hid hr13
                   have HB13 := Lib.hid ((HB11.out.alloc HB11.out.size _).trans (hg13.below (fun g hg => HK11.out.lt g hg) (by have := HB11.out.size; simp; omega)))
                   clear ho13 hg13 hr13))
                | (go_at_call 8; (
                   refine (readsL HR10.out (show (b9 ++ List.replicate n 0).length = 34 + n by rw [List.length_append, HL9.out, List.length_replicate]) hc10 (by omega)).mono ?_
                   rintro e w11 ⟨rfl, hb11⟩
                   have HB11 := Lib.hid (HBA10.out.trans (hb11.mono HBA10.out.size))
                   have HK11 := Lib.hid (HK10.out.far hb11)
                   clear hb11))
                | (at_builtin; (
                   refine Ds.wpList_appZ w8 rfl _ _ _ _ rfl wr.heap.size 5 i0 9 Try.underlying22 Try.underlying3 Try.underlying9 hI hz0 hz1 hz2 _ _ HO9.out rfl n rfl (by omega) (by rw [bc_length, HL9.out]; omega) HB9.out.size ?_
                   intro v10 w10 ho10 hg10 hs10 hk10
                   rw [← bc_app] at ho10
                   obtain ⟨A10, c10, rfl, hc10, hr10⟩ := Ow.form7 ho10 (34 + n) (by rw [bc_length, List.length_append, HL9.out, List.length_replicate])
                   have HR10 := Lib.hid hr10
                   have HK10 := Lib.hid hk10
                   have HBA10 := Lib.hid (HB9.out.trans (hg10.below (fun g hg => HO9.out.lt g hg) HB9.out.size))
                   clear ho10 hg10 hr10 hk10)))
              go_roundw
              case rel => exact ⟨n + 1, by omega, by go_num, Lib.hid (HN9.out.trans (HB14.out.mono HN9.out.size))⟩
              case measure => simp [intOf]; omega
            · have hnB : decide ((n : Int) < 9) = false := by simp only [decide_eq_false_iff_not]; omega
              go_wp2_with fail
              go_roundw
              case rel => exact ⟨a + 1, by omega, by go_num, HN9⟩
              case measure => simp [intOf]; omega
        · have haB : decide ((a : Int) < 5) = false := by simp only [decide_eq_false_iff_not]; omega
          have HBA2 := Lib.hid (HBA.out.trans ((HBL.out.trans (HA.out.mono HBL.out.size)).mono HBA.out.size))
          go_wp2_with (first
            | (go_at_call 11; (
               refine (dawake_any w4).mono ?_
               rintro e w5 ⟨rfl, hb5⟩
               have HB5 := Lib.hid (HB4.out.trans (hb5.mono HB4.out.size))
               clear hb5))
            | (go_at_call 10; (
               refine (limits_at wr).mono ?_
               rintro e w4 ⟨rfl, hb4⟩
               have HB4 := Lib.hid hb4
               clear hb4)))
          go_ret
          exact ⟨rfl, HBA2.out.trans (HB5.out.mono HBA2.out.size)⟩
end Go.Proofs.Ytlipmlbijddopaa
set_option linter.unusedVariables false
namespace Go.Proofs.Ytlipmlbijddopaa
open Go.ChangeShapes Go.WideShapes Go.ChangeAt Go.RowKit
set_option maxRecDepth 100000 in
theorem dnsSmall_lifted (os : Os) (started : os.Started) (H : Type) (enc : TypeId × Value → H) :
    ReturnsInHanded {} Try.checked os 3 .any (Rows.dnsSmallSpec.pre6 enc Try.checked.prog Try.f3 [] false) (Rows.dnsSmallSpec.post enc Try.checked.prog Try.f3 false true false false) := by
  refine law_lifted (C := Try.checked) (P := Try.prog) rfl Try.own Try.laidOut Try.underlying4 started Try.func3 rfl (by kernel_rfl) rfl [] (by rw [Try.params3])
    (fun ds h => by
      match ds, h with
      | [], _ => rfl) (by kernel_rfl)
    (ChangeSpec.witness6 (enc := enc) (C := Try.checked) false ⟨#[], #[], []⟩ 8 (by kernel_rfl) (by kernel_rfl) (by kernel_rfl) (by kernel_rfl)) ?_
  intro W base args ds p hval hA
  have e0 : args = #[] := by
    have := hA.trod
    obtain ⟨args⟩ := args
    cases args with
    | nil => rfl
    | cons a b => cases ds <;> cases this
  subst e0
  exact dnsSmall_any  W 

theorem dnsSmall_holds : Rows.DnsSmallSaid :=
  OpenClaim.holds_of_wide 3 Try.f3 rfl rfl rfl rfl rfl rfl rfl ⟨rfl, rfl, rfl, rfl, rfl⟩ rfl rfl rfl rfl rfl (by kernel_rfl) Try.func3 (by kernel_rfl)
    (of_decide_eq_true (by kernel_rfl)) (by unfold Func.isWrapper; first | (rw [if_pos (by decide +kernel)]; kernel_rfl) | (rw [if_neg (by decide +kernel)]; exact ⟨rfl, rfl⟩))
    (fun os started H enc _ => dnsSmall_lifted os started H enc)
end Go.Proofs.Ytlipmlbijddopaa
