/-
  slices.Clone and slices.Equal of ints; append into room that is known; Append of whatever name.
-/
import Derived.Test.YtnfgcfljjmjmpaaRefApp
import Derived.Test.YtnfgcfljjmjmpaaCf
import Derived.Test.YtnfgcfljjmjmpaaAt
set_option linter.unusedVariables false
set_option linter.unusedSimpArgs false
namespace Go.Proofs.Ytnfgcfljjmjmpaa
open Go.RowKit
set_option maxRecDepth 100000 in
set_option maxHeartbeats 400000 in
theorem iclone (A : Option Addr) (c : Nat) (l : List Int) (w : World) (B : Nat) (hB : B ≤ w.heap.size) (h : Rd w B A l.length (ic l)) (hl : l.length * 8 ≤ 140737488355328) :
    Calls Try.prog 49 #[.slice A l.length c] w fun e w' => ∃ v, e = .returned v ∧ Ow w' w.heap.size 3 v (ic l) ∧ Below w.heap.size w w' := by
  obtain ⟨i0, hi, hz0, hz1, hz2⟩ := info_parts Try.infoInt
  have q22 : ∀ (w : World) (a : Option Addr) (n c n' c' : Nat), (binOp .eql 38 (.slice a n c) (.slice none n' c')).run Try.prog w = .ok (.bool a.isNone) w := fun w a n c n' c' => Lib.run_eql_slice_nil w _ _ a n c n' c' Try.underlying38
  cases A with
  | none =>
    have hl0 : l = [] := by
      rcases Nat.eq_zero_or_pos l.length with h0 | h0
      · exact List.eq_nil_of_length_eq_zero h0
      · obtain ⟨b, o, h1, _⟩ := h.2 h0; cases h1
    subst hl0
    go_enter Try.func49, Try.ntmps49
    go_wp2
    go_ret
    exact ⟨_, rfl, Ow.nil _ _ _, Below.refl _ _⟩
  | some a =>
    go_enter Try.func49, Try.ntmps49
    go_wp2_with (at_builtin; refine wpList_app _ rfl _ _ _ _ rfl w.heap.size 3 i0 (.int .i64 0) 8 Try.underlying38 hi hz0 hz1 hz2 rfl (by omega) _ _ (Ow.made w 3 #[] 0 (by simp [maxLen]) rfl) rfl l.length (ic l) ((h.alloc hB _).src Try.underlying38 (ic_one l)) (by simp; omega) (by simp) ?_; intro v3 w3 hown3 hgr3 hsz3)
    go_ret
    exact ⟨_, rfl, by simpa using hown3, ((Below.refl w.heap.size w).alloc (Nat.le_refl _) _).trans (hgr3.below (by simp [Value.ownBlock]) (by simp))⟩

theorem ic_mem (l : List Int) (bl o : Nat) (w : World) (hc : ∀ j u, (ic l)[j]? = some u → w.cell? ⟨bl, o + j, none⟩ = some u) (j : Nat) (hj : j < l.length) : w.cell? ⟨bl, o + j, none⟩ = some (.int .i64 (l.getD j 0)) := by
  rw [hc j _ (ic_get l j hj)]
  simp [List.getD_eq_getElem?_getD, hj]
theorem ieq_any (A1 A2 : Option Addr) (c1 c2 : Nat) (l m : List Int) (w : World) (B : Nat) (h1 : Rd w B A1 l.length (ic l)) (h2 : Rd w B A2 m.length (ic m)) (hl : l.length ≤ 140737488355328) (hm : m.length ≤ 140737488355328) :
    Calls Try.prog 51 #[.slice A1 l.length c1, .slice A2 m.length c2] w fun e w' => e = .returned (.bool (decide (l = m))) ∧ ∃ q, w' = w.drewN q := by
  by_cases hne : l.length = m.length
  · rcases Nat.eq_zero_or_pos l.length with h0 | h0
    · have e1 : l = [] := List.eq_nil_of_length_eq_zero h0
      have e2 : m = [] := List.eq_nil_of_length_eq_zero (by omega)
      subst e1 e2
      refine (Try.slices_Equal_int_empty A1 A2 c1 0 c2 w (by omega)).mono ?_
      rintro e w' ⟨rfl, rfl⟩
      exact ⟨ret_bool (by simp), 0, rfl⟩
    · obtain ⟨b1, o1, rfl, _, k1⟩ := h1.at_ h0
      obtain ⟨b2, o2, rfl, _, k2⟩ := h2.at_ (show 0 < m.length by omega)
      have := Try.slices_Equal_int b1 o1 l.length c1 b2 o2 m.length c2 l m w (Nat.le_refl _) (Nat.le_refl _) (by omega) (by omega) (ic_mem l b1 o1 w k1) (ic_mem m b2 o2 w k2)
      refine this.mono ?_
      rintro e w' ⟨rfl, hq⟩
      refine ⟨ret_bool ?_, hq⟩
      rw [List.take_length, List.take_length]
      rw [Bool.eq_iff_iff]; simp
  · refine (Try.slices_Equal_int_lens A1 A2 l.length c1 m.length c2 w hne).mono ?_
    rintro e w' ⟨rfl, rfl⟩
    refine ⟨ret_bool ?_, 0, rfl⟩
    have : ¬ l = m := fun e => hne (by rw [e])
    simp [this]
theorem iclone_at (A : Option Addr) (c L : Nat) (l : List Int) (w : World) (hL : l.length = L) (h : Rd w w.heap.size A L (ic l)) (hl : L * 8 ≤ 140737488355328) :
    Calls Try.prog 49 #[.slice A L c] w fun e w' => ∃ v, e = .returned v ∧ Ow w' w.heap.size 3 v (ic l) ∧ Below w.heap.size w w' := by
  subst hL; exact iclone A c l w w.heap.size (Nat.le_refl _) h hl
theorem ieq_at (A1 A2 : Option Addr) (c1 c2 L1 L2 : Nat) (l m : List Int) (r : Bool) (w : World) (hr : decide (l = m) = r) (hL1 : l.length = L1) (hL2 : m.length = L2) (h1 : Rd w w.heap.size A1 L1 (ic l)) (h2 : Rd w w.heap.size A2 L2 (ic m)) (hl : L1 ≤ 140737488355328) (hm : L2 ≤ 140737488355328) :
    Calls Try.prog 51 #[.slice A1 L1 c1, .slice A2 L2 c2] w fun e w' => e = .returned (.bool r) ∧ ∃ q, w' = w.drewN q := by
  subst hL1 hL2 hr; exact ieq_any A1 A2 c1 c2 l m w w.heap.size h1 h2 hl hm
theorem run_mkcap (n : Nat) (hn : n ≤ 140737488355328) (W : World) : (Instr.makeSlice 22 (.int .i64 0) (.int .i64 (n : Int))).run Try.prog W = .ok (.slice (some ⟨W.heap.size, 0, none⟩) 0 n) (W.alloc (.cells (bc (List.replicate n 0)).toArray 5)) := by
  obtain ⟨i0, hi, hz0, hz1, hz2⟩ := info_parts Try.infoByte
  have := run_make (P := Try.prog) W 22 5 i0 (.int .u8 0) Try.underlying22 hi hz0 .i64 .i64 0 n (by omega) (by omega) (by rw [hz2]; omega) (by omega)
  rw [this, hz1]
  simp only [Nat.mul_one, Int.toNat_natCast]
  rw [made_bytes]; rfl
/-- append where there is room: the value and the world are known -/
theorem wpList_room {P : Program} (w : World) {ops : Array Oper} {rest : List Oper} {o : Oper} {a : Act} {Q : Exit → Act → World → Prop} (hgd : o.guard = none) (s x : Operand) (t tx : TypeId)
    (ho : o.op = .call { callee := .builtin .append, args := #[s, x], argTypes := #[t, tx] })
    (e : TypeId) (i : TypeInfo) (ht : P.underlying t = some (.slice e)) (hi : P.info? e = some i) (hsize : i.size = 1)
    (g sLen sCap : Nat) (cur : Array Value) (hg : w.heap[g]? = some (.cells cur e (0, 0))) (hv : a.eval s = .slice (some ⟨g, 0, none⟩) sLen sCap) (n : Nat) (news : List Value) (hs : Src P 1 tx (a.eval x) n news w)
    (hroom : sLen + n ≤ sCap) (hfit : sLen + news.length ≤ cur.size)
    (h : wpList P ops Q rest (a.put o.dst (.slice (some ⟨g, 0, none⟩) (sLen + n) sCap)) (w.setRow g (cur.toList.take sLen ++ news ++ cur.toList.drop (sLen + news.length)).toArray)) : wpList P ops Q (o :: rest) a w := by
  refine wpList_plain hgd fun K hK => ?_
  have hr := run_room_row (P := P) w t tx o.type e i ht hi hsize g sLen sCap cur hg _ n news hs hroom hfit
  unfold Oper.wp execOp
  simp only [ho, resolve, invoke, builtin, Sem.run_bind, Sem.run_pure, Result.andThen_ok, List.map_toArray, List.map_cons, List.map_nil, hv, hr]
  exact hK _ _ h
/-- the block g holds the cells xs and no others -/
def Whole (w : World) (g : Nat) (e : TypeId) (xs : List Value) : Prop := w.heap[g]? = some (.cells xs.toArray e (0, 0))
theorem Whole.lt {w : World} {g : Nat} {e : TypeId} {xs : List Value} (h : Whole w g e xs) : g < w.heap.size := by
  rcases Nat.lt_or_ge g w.heap.size with h1 | h1
  · exact h1
  · unfold Whole at h; rw [Array.getElem?_eq_none h1] at h; cases h
theorem Whole.below {w w' : World} {g B : Nat} {e : TypeId} {xs : List Value} (h : Whole w g e xs) (hb : Below B w w') (hg : g < B) : Whole w' g e xs := (hb.block g hg).trans h
theorem Whole.cell {w : World} {g : Nat} {e : TypeId} {xs : List Value} (h : Whole w g e xs) (j : Nat) : w.cell? ⟨g, j, none⟩ = xs[j]? := by
  unfold Whole at h
  simp [World.cell?, h]
theorem Whole.new (w : World) (e : TypeId) (xs : List Value) : Whole (w.alloc (.cells xs.toArray e)) w.heap.size e xs := heap_alloc_new w _
theorem Whole.rd {w : World} {g : Nat} {e : TypeId} {xs : List Value} (h : Whole w g e xs) (o n : Nat) (hn : o + n ≤ xs.length) : Rd w w.heap.size (some ⟨g, o, none⟩) n ((xs.drop o).take n) := by
  refine ⟨by rw [List.length_take, List.length_drop]; omega, fun h0 => ⟨g, o, rfl, h.lt, fun j u hu => ?_⟩⟩
  rw [h.cell]
  rcases Nat.lt_or_ge j n with h1 | h1
  · rwa [List.getElem?_take_of_lt h1, List.getElem?_drop] at hu
  · rw [List.getElem?_eq_none (by rw [List.length_take]; omega)] at hu; cases hu
/-- what Append returns, of whatever name -/
def appR (b : List UInt8) (known : List Int) (n : List (List UInt8)) : List UInt8 × Nat := if rightN n = true then (appN b known n, 0) else ([], 160)
section
variable (w : World)
theorem append_all (A1 A2 A3 : Option Addr) (c1 c2 c3 L1 L2 L3 : Nat) (b : List UInt8) (known : List Int) (n : List (List UInt8)) (hL1 : b.length = L1) (hL2 : known.length = L2) (hL3 : n.length = L3)
    (h1 : Rd w w.heap.size A1 L1 (bc b)) (hc1 : L1 ≤ c1) (hb : L1 ≤ 100000) (h2 : Rd w w.heap.size A2 L2 (ic known)) (hk : L2 ≤ 1000)
    (h3 : Rd w w.heap.size A3 L3 (sc n)) (hc3 : L3 ≤ c3) (hs : sizeN n ≤ 140737488355328) :
    Calls Try.prog 21 #[.slice A1 L1 c1, .slice A2 L2 c2, .slice A3 L3 c3] w fun e w' => ∃ v, e = .returned (.tuple #[v, .int .i64 (appR b known n).2]) ∧ Ow w' w.heap.size 5 v (bc (appR b known n).1) ∧ Below w.heap.size w w' := by
  unfold appR
  by_cases hr : rightN n = true
  · rw [if_pos hr]
    exact append_at w A1 A2 A3 c1 c2 c3 L1 L2 L3 b known n hL1 hL2 hL3 h1 hc1 hb h2 hk h3 hc3 hr
  · rw [if_neg hr]
    subst hL1 hL2 hL3
    refine (append_bad A1 A2 A3 c1 c2 c3 b known n w h3 (by simpa using hr) hs).mono ?_
    rintro e w' ⟨rfl, h⟩
    exact ⟨_, rfl, Ow.nil _ _ _, h⟩
theorem rappend_all (A1 A2 A3 : Option Addr) (c1 c2 c3 L1 L2 L3 : Nat) (b : List UInt8) (known : List Int) (n : List (List UInt8)) (hL1 : b.length = L1) (hL2 : known.length = L2) (hL3 : n.length = L3)
    (h1 : Rd w w.heap.size A1 L1 (bc b)) (hc1 : L1 ≤ c1) (hb : L1 ≤ 100000) (h2 : Rd w w.heap.size A2 L2 (ic known)) (hk : L2 ≤ 1000)
    (h3 : Rd w w.heap.size A3 L3 (sc n)) (hc3 : L3 ≤ c3) (hs : sizeN n ≤ 140737488355328) :
    Calls Try.prog 50 #[.slice A1 L1 c1, .slice A2 L2 c2, .slice A3 L3 c3] w fun e w' => ∃ v, e = .returned (.tuple #[v, .int .i64 (appR b known n).2]) ∧ Ow w' w.heap.size 5 v (bc (appR b known n).1) ∧ Below w.heap.size w w' := by
  unfold appR
  by_cases hr : rightN n = true
  · rw [if_pos hr]
    exact rapp_ok A1 A2 A3 c1 c2 c3 L1 L2 L3 b known n w hL1 hL2 hL3 h1 hc1 (by omega) h2 (by omega) h3 hc3 hr
  · rw [if_neg hr]
    refine (rapp_bad A1 A2 A3 c1 c2 c3 L1 L2 L3 n w hL3 h3 (by simpa using hr) hs).mono ?_
    rintro e w' ⟨rfl, h⟩
    exact ⟨_, rfl, Ow.nil _ _ _, h⟩
end
end Go.Proofs.Ytnfgcfljjmjmpaa
