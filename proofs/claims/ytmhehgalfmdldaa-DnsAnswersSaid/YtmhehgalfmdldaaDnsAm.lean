/-
  DnsAnswers: the walk.
-/
import Derived.Test.YtmhehgalfmdldaaDnsHp
set_option linter.unusedVariables false
set_option linter.unusedSimpArgs false
namespace Go.Proofs.Ytmhehgalfmdldaa
open Go.RowKit
/-- a question about this name and type -/
def kq (ty : Nat) (nm : List (List UInt8)) (q : Qn) : Bool := decide (q.ty = ty) && decide (q.nm = nm)
set_option maxRecDepth 100000 in
set_option maxHeartbeats 400000 in
theorem an1_at (x : QR) (g : Nat) (A : Option Addr) (c : Nat) (nm : List (List UInt8)) (ty : Nat) (w : World) (hx : QRd w w.heap.size x) (c0 : w.cell? ⟨g, 0, none⟩ = some (.slice A nm.length c)) (c1 : w.cell? ⟨g, 1, none⟩ = some (.int .u16 (ty : Int))) (hn : NRd w w.heap.size A c nm) :
    Calls Try.prog 23 #[.agg x.cells.toArray, .pointer (some ⟨g, 0, none⟩)] w fun e w' => e = .returned (.bool (kq ty nm x.q)) ∧ Below w.heap.size w w' := by
  obtain ⟨xA, xc, ⟨xn, xt, xl⟩⟩ := x
  obtain ⟨⟨hn1, hnc1, hns1⟩, hty, hcl⟩ := hx
  simp only at hn1 hnc1 hns1 hty hcl
  have hb0 : ∀ o : Obj, Below w.heap.size w (w.alloc o) := fun o => below_new w o
  have l1 := World.block_lt_of_cell? _ _ c0
  have l2 := World.block_lt_of_cell? _ _ c1
  simp only at l1 l2
  have H1 := Lib.hid hn1
  have H2 := Lib.hid hn.1
  have hle1 := Nat.le_trans (len_le_size xn) hns1
  have hle2 := Nat.le_trans (len_le_size nm) hn.2.2
  clear hn1 hn
  unfold QR.cells
  simp only
  by_cases h1 : xt = ty
  · have e1 : ((xt : Int) == (ty : Int)) = true := by rw [beq_iff_eq]; omega
    obtain ⟨r, hr⟩ : ∃ r, decide (xn = nm) = r := ⟨_, rfl⟩
    have hk : kq ty nm ⟨xn, xt, xl⟩ = r := by simp [kq, h1, hr]
    rw [hk]
    have HR := Lib.hid hr
    clear hk hr h1
    go_enter Try.func23, Try.ntmps23
    go_wp2_with (go_at_call 20; refine (seq_at _ xA A xc c _ _ xn nm r HR.out rfl rfl ((H1.out.below (hb0 _)).more (hb0 _).size) ((H2.out.below (hb0 _)).more (hb0 _).size) hle1 hle2).mono ?_; rintro e w2 ⟨rfl, q, rfl⟩)
    go_ret
    exact ⟨rfl, bl_drewN (hb0 _) q⟩
  · have e1 : ((xt : Int) == (ty : Int)) = false := by rw [beq_eq_false_iff_ne]; omega
    have hk : kq ty nm ⟨xn, xt, xl⟩ = false := by simp [kq, h1]
    rw [hk]
    clear hk h1
    go_enter Try.func23, Try.ntmps23
    go_wp2_with fail
    go_ret
    exact ⟨rfl, hb0 _⟩
set_option maxRecDepth 100000 in
set_option maxHeartbeats 400000 in
theorem anI1_at (Aq : Option Addr) (cq n : Nat) (l : List QR) (g : Nat) (A : Option Addr) (c : Nat) (nm : List (List UInt8)) (ty : Nat) (w : World) (h : QsRd w w.heap.size Aq cq n l) (c0 : w.cell? ⟨g, 0, none⟩ = some (.slice A nm.length c)) (c1 : w.cell? ⟨g, 1, none⟩ = some (.int .u16 (ty : Int))) (hn : NRd w w.heap.size A c nm) :
    Calls Try.prog 52 #[.slice Aq n cq, .func (.func 23) #[] #[.pointer (some ⟨g, 0, none⟩)]] w fun e w' => ∃ r : Int, e = .returned (.int .i64 r) ∧ decide (0 ≤ r) = l.any (fun x => kq ty nm x.q) ∧ Below w.heap.size w w' := by
  have hl := h.2.1
  have hn' := h.2.2.2.1
  have H := Lib.hid h
  have l1 := World.block_lt_of_cell? _ _ c0
  have l2 := World.block_lt_of_cell? _ _ c1
  have C0 := Lib.hid c0
  have C1 := Lib.hid c1
  have HN := Lib.hid hn
  clear h c0 c1 hn
  go_enter Try.func52, Try.ntmps52
  go_wp2_with fail
  go_loopw [8] (fun i wr => ∃ k : Nat, k ≤ n ∧ i = .int .i64 k ∧ (l.take k).any (fun x => kq ty nm x.q) = false ∧ Below w.heap.size w wr) (fun i _ => n - (intOf i).toNat)
  case atStart => exact ⟨0, Nat.zero_le _, rfl, rfl, Below.refl _ _⟩
  case round =>
    obtain ⟨k, hk, rfl, hall, hbel⟩ := hrel
    rcases Nat.lt_or_ge k n with hlt | hge
    · have hkl : k < l.length := by omega
      obtain ⟨b, o, rfl, _, hc⟩ := (H.out.below hbel).at_ hlt
      obtain ⟨c0, c1, c2⟩ := hc hkl
      have HX := Lib.hid (((H.out.below hbel).2.2.2.2 l[k] (List.getElem_mem hkl)).more hbel.size)
      have D0 := Lib.hid ((hbel.cell (p := ⟨g, 0, none⟩) l1).trans C0.out)
      have D1 := Lib.hid ((hbel.cell (p := ⟨g, 1, none⟩) l2).trans C1.out)
      have HNr := Lib.hid ((HN.out.below hbel).more hbel.size)
      clear hc
      go_wp2_with (go_at_call 23; refine (an1_at l[k] g A c nm ty _ HX.out D0.out D1.out HNr.out).mono ?_; rintro e w2 ⟨rfl, hb2⟩)
      · go_ret
        exact ⟨k, rfl, any_hit l _ k hkl (by assumption), hbel.trans (hb2.mono hbel.size)⟩
      · exact ⟨⟨k + 1, by omega, by go_num, any_miss l _ k hkl hall (by first | assumption | exact Bool.eq_false_iff.2 (by assumption)), hbel.trans (hb2.mono hbel.size)⟩, by simp [intOf]; omega⟩
    · go_wp2_with fail
      go_ret
      exact ⟨-1, rfl, any_end l _ k (by omega) hall, hbel⟩
theorem anC1_at (Aq : Option Addr) (cq n : Nat) (l : List QR) (g : Nat) (A : Option Addr) (c : Nat) (nm : List (List UInt8)) (ty : Nat) (r : Bool) (hr : l.any (fun x => kq ty nm x.q) = r) (w : World) (h : QsRd w w.heap.size Aq cq n l) (c0 : w.cell? ⟨g, 0, none⟩ = some (.slice A nm.length c)) (c1 : w.cell? ⟨g, 1, none⟩ = some (.int .u16 (ty : Int))) (hn : NRd w w.heap.size A c nm) :
    Calls Try.prog 22 #[.slice Aq n cq, .func (.func 23) #[] #[.pointer (some ⟨g, 0, none⟩)]] w fun e w' => e = .returned (.bool r) ∧ Below w.heap.size w w' := by
  have H := Lib.hid h
  have HN := Lib.hid hn
  have C0 := Lib.hid c0
  have C1 := Lib.hid c1
  have HR := Lib.hid hr
  clear h hn c0 c1 hr
  go_enter Try.func22, Try.ntmps22
  go_wp2_with (go_at_call 52; refine (anI1_at Aq cq n l g A c nm ty _ H.out C0.out C1.out HN.out).mono ?_; rintro e w2 ⟨q, rfl, hq, hb2⟩)
  go_ret
  first | exact ⟨ret_bool HR.out, hb2⟩ | exact ⟨ret_bool (hq.trans HR.out), hb2⟩
set_option maxRecDepth 100000 in
set_option maxHeartbeats 400000 in
theorem an2_at (x : QR) (g1 g2 : Nat) (A : Option Addr) (c : Nat) (nm : List (List UInt8)) (ty : Nat) (w : World) (hx : QRd w w.heap.size x) (c0 : w.cell? ⟨g2, 0, none⟩ = some (.slice A nm.length c)) (c1 : w.cell? ⟨g1, 0, none⟩ = some (.int .u16 (ty : Int))) (hn : NRd w w.heap.size A c nm) :
    Calls Try.prog 26 #[.agg x.cells.toArray, .pointer (some ⟨g1, 0, none⟩), .pointer (some ⟨g2, 0, none⟩)] w fun e w' => e = .returned (.bool (kq ty nm x.q)) ∧ Below w.heap.size w w' := by
  obtain ⟨xA, xc, ⟨xn, xt, xl⟩⟩ := x
  obtain ⟨⟨hn1, hnc1, hns1⟩, hty, hcl⟩ := hx
  simp only at hn1 hnc1 hns1 hty hcl
  have hb0 : ∀ o : Obj, Below w.heap.size w (w.alloc o) := fun o => below_new w o
  have l1 := World.block_lt_of_cell? _ _ c0
  have l2 := World.block_lt_of_cell? _ _ c1
  simp only at l1 l2
  have H1 := Lib.hid hn1
  have H2 := Lib.hid hn.1
  have hle1 := Nat.le_trans (len_le_size xn) hns1
  have hle2 := Nat.le_trans (len_le_size nm) hn.2.2
  clear hn1 hn
  unfold QR.cells
  simp only
  by_cases h1 : xt = ty
  · have e1 : ((xt : Int) == (ty : Int)) = true := by rw [beq_iff_eq]; omega
    obtain ⟨r, hr⟩ : ∃ r, decide (xn = nm) = r := ⟨_, rfl⟩
    have hk : kq ty nm ⟨xn, xt, xl⟩ = r := by simp [kq, h1, hr]
    rw [hk]
    have HR := Lib.hid hr
    clear hk hr h1
    go_enter Try.func26, Try.ntmps26
    go_wp2_with (go_at_call 20; refine (seq_at _ xA A xc c _ _ xn nm r HR.out rfl rfl ((H1.out.below (hb0 _)).more (hb0 _).size) ((H2.out.below (hb0 _)).more (hb0 _).size) hle1 hle2).mono ?_; rintro e w2 ⟨rfl, q, rfl⟩)
    go_ret
    exact ⟨rfl, bl_drewN (hb0 _) q⟩
  · have e1 : ((xt : Int) == (ty : Int)) = false := by rw [beq_eq_false_iff_ne]; omega
    have hk : kq ty nm ⟨xn, xt, xl⟩ = false := by simp [kq, h1]
    rw [hk]
    clear hk h1
    go_enter Try.func26, Try.ntmps26
    go_wp2_with fail
    go_ret
    exact ⟨rfl, hb0 _⟩
set_option maxRecDepth 100000 in
set_option maxHeartbeats 400000 in
theorem anI2_at (Aq : Option Addr) (cq n : Nat) (l : List QR) (g1 g2 : Nat) (A : Option Addr) (c : Nat) (nm : List (List UInt8)) (ty : Nat) (w : World) (h : QsRd w w.heap.size Aq cq n l) (c0 : w.cell? ⟨g2, 0, none⟩ = some (.slice A nm.length c)) (c1 : w.cell? ⟨g1, 0, none⟩ = some (.int .u16 (ty : Int))) (hn : NRd w w.heap.size A c nm) :
    Calls Try.prog 52 #[.slice Aq n cq, .func (.func 26) #[] #[.pointer (some ⟨g1, 0, none⟩), .pointer (some ⟨g2, 0, none⟩)]] w fun e w' => ∃ r : Int, e = .returned (.int .i64 r) ∧ decide (0 ≤ r) = l.any (fun x => kq ty nm x.q) ∧ Below w.heap.size w w' := by
  have hl := h.2.1
  have hn' := h.2.2.2.1
  have H := Lib.hid h
  have l1 := World.block_lt_of_cell? _ _ c0
  have l2 := World.block_lt_of_cell? _ _ c1
  have C0 := Lib.hid c0
  have C1 := Lib.hid c1
  have HN := Lib.hid hn
  clear h c0 c1 hn
  go_enter Try.func52, Try.ntmps52
  go_wp2_with fail
  go_loopw [8] (fun i wr => ∃ k : Nat, k ≤ n ∧ i = .int .i64 k ∧ (l.take k).any (fun x => kq ty nm x.q) = false ∧ Below w.heap.size w wr) (fun i _ => n - (intOf i).toNat)
  case atStart => exact ⟨0, Nat.zero_le _, rfl, rfl, Below.refl _ _⟩
  case round =>
    obtain ⟨k, hk, rfl, hall, hbel⟩ := hrel
    rcases Nat.lt_or_ge k n with hlt | hge
    · have hkl : k < l.length := by omega
      obtain ⟨b, o, rfl, _, hc⟩ := (H.out.below hbel).at_ hlt
      obtain ⟨c0, c1, c2⟩ := hc hkl
      have HX := Lib.hid (((H.out.below hbel).2.2.2.2 l[k] (List.getElem_mem hkl)).more hbel.size)
      have D0 := Lib.hid ((hbel.cell (p := ⟨g2, 0, none⟩) l1).trans C0.out)
      have D1 := Lib.hid ((hbel.cell (p := ⟨g1, 0, none⟩) l2).trans C1.out)
      have HNr := Lib.hid ((HN.out.below hbel).more hbel.size)
      clear hc
      go_wp2_with (go_at_call 26; refine (an2_at l[k] g1 g2 A c nm ty _ HX.out D0.out D1.out HNr.out).mono ?_; rintro e w2 ⟨rfl, hb2⟩)
      · go_ret
        exact ⟨k, rfl, any_hit l _ k hkl (by assumption), hbel.trans (hb2.mono hbel.size)⟩
      · exact ⟨⟨k + 1, by omega, by go_num, any_miss l _ k hkl hall (by first | assumption | exact Bool.eq_false_iff.2 (by assumption)), hbel.trans (hb2.mono hbel.size)⟩, by simp [intOf]; omega⟩
    · go_wp2_with fail
      go_ret
      exact ⟨-1, rfl, any_end l _ k (by omega) hall, hbel⟩
theorem anC2_at (Aq : Option Addr) (cq n : Nat) (l : List QR) (g1 g2 : Nat) (A : Option Addr) (c : Nat) (nm : List (List UInt8)) (ty : Nat) (r : Bool) (hr : l.any (fun x => kq ty nm x.q) = r) (w : World) (h : QsRd w w.heap.size Aq cq n l) (c0 : w.cell? ⟨g2, 0, none⟩ = some (.slice A nm.length c)) (c1 : w.cell? ⟨g1, 0, none⟩ = some (.int .u16 (ty : Int))) (hn : NRd w w.heap.size A c nm) :
    Calls Try.prog 22 #[.slice Aq n cq, .func (.func 26) #[] #[.pointer (some ⟨g1, 0, none⟩), .pointer (some ⟨g2, 0, none⟩)]] w fun e w' => e = .returned (.bool r) ∧ Below w.heap.size w w' := by
  have H := Lib.hid h
  have HN := Lib.hid hn
  have C0 := Lib.hid c0
  have C1 := Lib.hid c1
  have HR := Lib.hid hr
  clear h hn c0 c1 hr
  go_enter Try.func22, Try.ntmps22
  go_wp2_with (go_at_call 52; refine (anI2_at Aq cq n l g1 g2 A c nm ty _ H.out C0.out C1.out HN.out).mono ?_; rintro e w2 ⟨q, rfl, hq, hb2⟩)
  go_ret
  first | exact ⟨ret_bool HR.out, hb2⟩ | exact ⟨ret_bool (hq.trans HR.out), hb2⟩
/-! ### plain -/
def kk (q : Qn) : List (List UInt8) × Nat := (q.nm, q.ty)
theorem kq_iff (ty : Nat) (nm : List (List UInt8)) (q : Qn) : kq ty nm q = true ↔ kk q = (nm, ty) := by
  simp [kq, kk, and_comm]
def isIn (r : Rc) : Bool := decide (r.q.cl = 1)
theorem ans_key (m : Ms) (nm : List (List UInt8)) (ty : Nat) : answersM m nm ty = (m.r0.filter isIn).filter (fun r => decide (kk r.q = (nm, ty))) := by
  rw [List.filter_filter]
  unfold answersM isIn kk
  congr 1
  funext r
  rw [Bool.eq_iff_iff]
  simp only [Bool.and_eq_true, decide_eq_true_eq, Prod.mk.injEq]
  constructor
  · rintro ⟨h1, h2, h3⟩; exact ⟨⟨h3, h1⟩, h2⟩
  · rintro ⟨⟨h3, h1⟩, h2⟩; exact ⟨h1, h2, h3⟩
theorem sum_zero {α : Type} (l : List α) : (l.map (fun _ => 0)).sum = 0 := by
  induction l with
  | nil => rfl
  | cons a l ih => rw [List.map_cons, List.sum_cons, ih]
theorem one_of {K : List (List (List UInt8) × Nat)} (hn : K.Nodup) (a : List (List UInt8) × Nat) (h : a ∈ K) : (K.map (fun k => if a = k then 1 else 0)).sum = 1 := by
  induction K with
  | nil => cases h
  | cons b K ih =>
    rw [List.nodup_cons] at hn
    rw [List.map_cons, List.sum_cons]
    by_cases e : a = b
    · subst e
      rw [if_pos rfl]
      have : (K.map (fun k => if a = k then 1 else 0)).sum = 0 := by
        have : K.map (fun k => if a = k then 1 else 0) = K.map (fun _ => 0) := List.map_congr_left fun k hk => if_neg (fun e => hn.1 (by rw [e]; exact hk))
        rw [this, sum_zero]
      omega
    · rw [if_neg e, Nat.zero_add]
      exact ih hn.2 (by rcases List.mem_cons.1 h with h | h; exact absurd h e; exact h)
theorem sum_add {α : Type} (f g : α → Nat) (l : List α) : (l.map (fun x => f x + g x)).sum = (l.map f).sum + (l.map g).sum := by
  induction l with
  | nil => rfl
  | cons a l ih => simp only [List.map_cons, List.sum_cons, ih]; omega
theorem total {K : List (List (List UInt8) × Nat)} (hn : K.Nodup) (C : List Rc) : (∀ r ∈ C, kk r.q ∈ K) → (K.map (fun k => (C.filter (fun r => decide (kk r.q = k))).length)).sum = C.length := by
  induction C with
  | nil =>
    intro _
    exact sum_zero K
  | cons a C ih =>
    intro h
    have h1 := ih (fun r hr => h r (by simp [hr]))
    have h2 := one_of hn (kk a.q) (h a (by simp))
    have e : K.map (fun k => ((a :: C).filter (fun r => decide (kk r.q = k))).length) = K.map (fun k => (if kk a.q = k then 1 else 0) + (C.filter (fun r => decide (kk r.q = k))).length) :=
      List.map_congr_left fun k _ => by
        rw [List.filter_cons]
        by_cases e : kk a.q = k
        · simp [e]; omega
        · simp [e]
    rw [e, sum_add, h1, h2, List.length_cons]; omega
theorem filter_at {α : Type} (p : α → Bool) (L : List α) (j : Nat) (hj : j < L.length) (h : p L[j] = true) : (L.filter p)[((L.take j).filter p).length]? = some L[j] := by
  have e : L = L.take j ++ L[j] :: L.drop (j + 1) := by
    rw [← List.drop_eq_getElem_cons hj, List.take_append_drop]
  have : L.filter p = (L.take j).filter p ++ L[j] :: (L.drop (j + 1)).filter p := by
    conv => lhs; rw [e]
    rw [List.filter_append, List.filter_cons, if_pos h]
  rw [this, List.getElem?_append_right (Nat.le_refl _)]
  simp
theorem right_small2 {r : Rc} (h : rightR r = true) : r.q.nm.length ≤ 255 ∧ r.tg.length ≤ 255 := by
  have h1 := size_right (rightR_nm h)
  have h2 := len_le_size r.q.nm
  refine ⟨by omega, ?_⟩
  have hn := rightR_nm h
  unfold rightR at h
  rw [if_pos hn] at h
  split at h
  · split at h
    · have h3 := size_right h
      have := len_le_size r.tg
      omega
    · cases h
  · have := (of_decide_eq_true h).2.2.2.2
    omega
open Go.RowKit
/-- what has been counted behind k records -/
structure AnI (m : Ms) (k sum all : Nat) (S : List Qn) : Prop where
  nd : (S.map kk).Nodup
  cov : ∀ r ∈ (m.r0.take k).filter isIn, kk r.q ∈ S.map kk
  sm : sum = (S.map (fun q => (answersM m q.nm q.ty).length)).sum
  al : all = ((m.r0.take k).filter isIn).length
section
variable {m : Ms} {k sum all : Nat} {S : List Qn}
theorem take_isIn (hk : k < m.r0.length) : (m.r0.take (k + 1)).filter isIn = (m.r0.take k).filter isIn ++ (if isIn m.r0[k] = true then [m.r0[k]] else []) := by
  rw [List.take_succ_eq_append_getElem hk, List.filter_append]
  congr 1
  rw [List.filter_cons]
  split <;> rfl
theorem AnI.skip (h : AnI m k sum all S) (hk : k < m.r0.length) (hn : isIn m.r0[k] = false) : AnI m (k + 1) sum all S := by
  have e := take_isIn hk
  rw [hn] at e
  simp at e
  exact ⟨h.nd, by rw [e]; exact h.cov, h.sm, by rw [e]; exact h.al⟩
theorem AnI.seen (h : AnI m k sum all S) (hk : k < m.r0.length) (hn : isIn m.r0[k] = true) (hs : kk m.r0[k].q ∈ S.map kk) : AnI m (k + 1) sum (all + 1) S := by
  have e := take_isIn hk
  rw [hn, if_pos rfl] at e
  refine ⟨h.nd, ?_, h.sm, by rw [e, List.length_append, ← h.al]; rfl⟩
  rw [e]
  exact mem_snoc h.cov hs
theorem AnI.add (h : AnI m k sum all S) (hk : k < m.r0.length) (hn : isIn m.r0[k] = true) (hs : kk m.r0[k].q ∉ S.map kk) : AnI m (k + 1) (sum + (answersM m m.r0[k].q.nm m.r0[k].q.ty).length) (all + 1) (S ++ [m.r0[k].q]) := by
  have e := take_isIn hk
  rw [hn, if_pos rfl] at e
  refine ⟨?_, ?_, by rw [List.map_append, List.sum_append, ← h.sm]; simp, by rw [e, List.length_append, ← h.al]; rfl⟩
  · rw [List.map_append, List.nodup_append]
    exact ⟨h.nd, by simp, fun a ha b hb e2 => by
      rw [List.map_cons, List.map_nil, List.mem_singleton] at hb
      subst hb; subst e2; exact hs ha⟩
  · rw [e, List.map_append]
    refine mem_snoc (fun r hr => List.mem_append_left _ (h.cov r hr)) (List.mem_append_right _ (by simp))
theorem AnI.fin (h : AnI m k sum all S) (hk : m.r0.length ≤ k) : sum = all := by
  have hc := h.cov
  have ha := h.al
  rw [List.take_of_length_le hk] at hc ha
  rw [h.sm, ha, ← total h.nd _ hc, List.map_map]
  congr 1
  refine List.map_congr_left fun q _ => ?_
  rw [ans_key]; rfl
theorem AnI.none_ (h : AnI m k sum all S) (hk : m.r0.length ≤ k) {nm : List (List UInt8)} {ty : Nat} (hs : (nm, ty) ∉ S.map kk) : answersM m nm ty = [] := by
  have hc := h.cov
  rw [List.take_of_length_le hk] at hc
  rw [ans_key, List.filter_eq_nil_iff]
  intro r hr e
  exact hs (of_decide_eq_true e ▸ hc r hr)
end
theorem any_kq (l : List QR) (ty : Nat) (nm : List (List UInt8)) : l.any (fun x => kq ty nm x.q) = true ↔ (nm, ty) ∈ (l.map QR.q).map kk := by
  rw [List.any_eq_true, List.map_map, List.mem_map]
  constructor
  · rintro ⟨x, hx, h⟩; exact ⟨x, hx, (kq_iff _ _ _).1 h⟩
  · rintro ⟨x, hx, h⟩; exact ⟨x, hx, (kq_iff _ _ _).2 h⟩
theorem ans_le (m : Ms) (nm : List (List UInt8)) (ty : Nat) : (answersM m nm ty).length ≤ m.r0.length := List.length_filter_le _ _
theorem qsrd_own {w W : World} {base B : Nat} {A : Option Addr} {c : Nat} {l : List QR} (h : OwM W base 42 3 (.slice A l.length c) l.length (qcs l)) (hl : l.length ≤ 1000) (hq : ∀ q ∈ l, QRd w B q) (hb : Below B w W) (hB : B ≤ W.heap.size) : QsRd W W.heap.size A c l.length l :=
  ⟨h.rd, rfl, OwM.cap h, by omega, fun q hq' => ((hq q hq').below hb).more hB⟩
set_option maxRecDepth 100000 in
set_option maxHeartbeats 16000000 in
theorem dnsAnswers_any (id fl : Nat) (A1 : Option Addr) (c1 : Nat) (l1 : List SmR) (A2 : Option Addr) (c2 : Nat) (other : List (List UInt8)) (kind : Nat) (w : World) (hid : id < 65536) (hfl : fl < 65536)
    (h1 : Rd w w.heap.size A1 (l1.length * 9) (l1.flatMap SmR.cells)) (hc1 : l1.length ≤ c1) (hx1 : ∀ x ∈ l1, SRd w w.heap.size x)
    (h2 : Rd w w.heap.size A2 other.length (sc other)) (hc2 : other.length ≤ c2) (hb2 : other.length * 16 ≤ 140737488351232) (hx2 : ∀ x ∈ other, x.length ≤ 140737488351232) (hkind : kind < 65536) :
    Calls Try.prog 6 #[.int .u16 (id : Int), .int .u16 (fl : Int), .slice A1 l1.length c1, .slice A2 other.length c2, .int .u16 (kind : Int)] w fun e w' => e = .returned (.bool true) ∧ Below w.heap.size w w' := by
  obtain ⟨i0, hi, hz0, hz1, hz2⟩ := info_parts Try.infoQ
  have ok1 := okS_map hx1
  obtain ⟨mr1, mk1, mn1, ml1, mw1, mb1⟩ := madeM_all id fl (l1.map SmR.s) hid hfl ok1
  have MM1 := Lib.hid (fun (w' : World) (base : Nat) (x : MR) (h : MOw w' base x) (hx : x.m = madeM id fl (l1.map SmR.s)) => made_mrd h hx hid hfl ok1)
  obtain ⟨M, hM⟩ : ∃ M, M = madeM id fl (l1.map SmR.s) := ⟨_, rfl⟩
  rw [← hM] at mr1 mk1 mn1 MM1
  have hrr : ∀ r ∈ M.r0, rightR r = true := (rightM_q mr1).2.1
  have hkr : ∀ r ∈ M.r0, okR r := mk1.r0
  have h10 : M.r0.length ≤ 10 := by unfold Ms.num at mn1; omega
  have HM := Lib.hid hM
  have HR1 := Lib.hid h1
  have HX1 := Lib.hid hx1
  have HR2 := Lib.hid h2
  have HX2 := Lib.hid hx2
  have HRR := Lib.hid hrr
  have HKR := Lib.hid hkr
  clear ok1 mr1 mk1 mn1 ml1 mw1 mb1 hM h1 hx1 h2 hx2 hrr hkr
  have hb1 := below_new w (.cells #[.int .u16 (kind : Int)] 25)
  have V9 : Vx (w.alloc (.cells #[.int .u16 (kind : Int)] 25)) w.heap.size 25 [.int .u16 (kind : Int)] := Vx.new w _ _
  go_enter Try.func6, Try.ntmps6
  go_wp2_with (first
    | (go_at_call 21
       refine (dmade_at id fl A1 c1 l1 w2 ((HR1.out.below hB2).more hB2.size) hc1 (fun x hx => ((HX1.out x hx).below hB2).more hB2.size)).mono ?_
       rw [← HM.out]
       rintro e w3 ⟨x, hx3, rfl, hmo3, hb3⟩
       have hmr3 := MM1.out _ _ x hmo3 hx3
       obtain ⟨idM, flM, qAM, qcM, qsM, aAM, acM, raM, bAM, bdM, rbM, cAM, ccM, rcM⟩ := x
       unfold MR.cells
       dsimp only)
    | (go_at_call 13
       refine (dawake_any _).mono ?_
       rintro e w2 ⟨rfl, hb2⟩
       have hB2 := hb1.trans (hb2.mono hb1.size)))
  obtain ⟨g9, hg9⟩ : ∃ g, g = w.heap.size := ⟨_, rfl⟩
  obtain ⟨g11, hg11⟩ : ∃ g, g = w3.heap.size := ⟨_, rfl⟩
  have hn4 : Below w3.heap.size w3 (w3.alloc (.cells #[.int .u16 (idM : Int), .int .u16 (flM : Int), .slice qAM qsM.length qcM, .slice aAM raM.length acM, .slice bAM rbM.length bdM, .slice cAM rcM.length ccM] 30)) := below_new w3 _
  have V9 := ((V9.below hb2 V9.lt).below hb3 (V9.below hb2 V9.lt).lt).below hn4 ((V9.below hb2 V9.lt).below hb3 (V9.below hb2 V9.lt).lt).lt
  have bm4 : BoxM (w3.alloc (.cells #[.int .u16 (idM : Int), .int .u16 (flM : Int), .slice qAM qsM.length qcM, .slice aAM raM.length acM, .slice bAM rbM.length bdM, .slice cAM rcM.length ccM] 30)) w3.heap.size ⟨idM, flM, qAM, qcM, qsM, aAM, acM, raM, bAM, bdM, rbM, cAM, ccM, rcM⟩ := BoxM.new hmr3
  have hB3 := hB2.trans (hb3.mono hB2.size)
  have hB4 := hB3.trans (hn4.mono hB3.size)
  rw [← hg9] at V9
  rw [← hg11] at bm4
  try rw [← hg11]
  try rw [← hg9]
  clear hn4 hb3 hb2 hb1 hmo3 hB2 hB3 hmr3 MM1 HR1 HX1 hg9 hg11
  generalize (w3.alloc (.cells #[.int .u16 (idM : Int), .int .u16 (flM : Int), .slice qAM qsM.length qcM, .slice aAM raM.length acM, .slice bAM rbM.length bdM, .slice cAM rcM.length ccM] 30)) = w4 at *
  have HB4 := Lib.hid hB4
  have HBM := Lib.hid bm4
  have HV9 := Lib.hid V9
  have l9 := V9.lt
  have l11 := bm4.1.lt
  have hra : raM.map RR.r = M.r0 := by rw [← hx3]; rfl
  have hral : raM.length = M.r0.length := by rw [← hra, List.length_map]
  have hra10 : raM.length ≤ 10 := by omega
  have HRA := Lib.hid hra
  have HRAL := Lib.hid hral
  have HXM := Lib.hid hx3
  clear hB4 bm4 V9 hra hral hx3 h10
  go_loopw [32, 12, 13, 14] (fun vk vsum vall vseen wr => ∃ (k sum all : Nat) (As : Option Addr) (cs : Nat) (ks : List QR), k ≤ raM.length ∧ vk = .int .i64 k ∧ vsum = .int .i64 sum ∧ vall = .int .i64 all ∧ vseen = .slice As ks.length cs ∧ ks.length ≤ k ∧ sum ≤ 10 * k ∧ all ≤ k ∧ Hid (Below w4.heap.size w4 wr) ∧ Hid (OwM wr w4.heap.size 42 3 (.slice As ks.length cs) ks.length (qcs ks)) ∧ Hid (∀ q ∈ ks, QRd w4 w4.heap.size q) ∧ Hid (AnI M k sum all (ks.map QR.q))) (fun vk _ _ _ _ => raM.length - (intOf vk).toNat)
  case atStart => exact ⟨0, 0, 0, none, 0, [], Nat.zero_le _, rfl, rfl, rfl, rfl, Nat.le_refl _, Nat.le_refl _, Nat.le_refl _, Lib.hid (Below.refl _ _), Lib.hid (OwM.nil _ _ _ _), Lib.hid (fun _ h => by cases h), Lib.hid ⟨by simp, fun r hr => by simp at hr, rfl, rfl⟩⟩
  case round =>
    obtain ⟨k, sum, all, As, cs, ks, hk, rfl, rfl, rfl, rfl, hksl, hsum, hall, HB, HO, HQ, HI⟩ := hrel
    have hBw := HB.out.size
    rcases Nat.lt_or_ge k raM.length with hlt | hge
    · have HRs := Lib.hid (HBM.out.2.2.2.2.1.below HB.out)
      obtain ⟨bq, oq, haq, _, hqc⟩ := HRs.out.at_ hlt
      subst haq
      have h9 := hqc hlt
      have hqm := HRs.out.2.2.2.2 _ (List.getElem_mem hlt)
      have hrm : raM[k].r ∈ M.r0 := by rw [← HRA.out]; exact List.mem_map.2 ⟨_, List.getElem_mem hlt, rfl⟩
      have hkm : k < M.r0.length := by rw [← HRAL.out]; exact hlt
      have hrk : raM[k].r = M.r0[k] := by
        have e := HRA.out
        have : (raM.map RR.r)[k]'(by simpa using hlt) = raM[k].r := by simp
        rw [← this]
        congr 1
      obtain ⟨r, hr⟩ : ∃ r, r = raM[k] := ⟨_, rfl⟩
      rw [← hr] at h9 hqm hrm hrk
      have hmem : r ∈ raM := by rw [hr]; exact List.getElem_mem hlt
      have HQR4 := Lib.hid ((HBM.out.2.2.2.2.1.2.2.2.2 r hmem).1)
      clear hqc hr
      obtain ⟨rA, rc, rdA, rdc, rtA, rtc, ⟨⟨nm, ty, cl⟩, ttl, dd, pr, we, po, tg⟩⟩ := r
      obtain ⟨d0, d1, d2, d3, d4, d5, d6, d7, d8⟩ := h9.cells
      simp only at d0 d1 d2 d3 d4 d5 d6 d7 d8 hrk hrm
      have HRK := Lib.hid hrk
      have HQM := Lib.hid hqm
      have hrs := right_small2 (HRR.out _ hrm)
      simp only at hrs
      clear h9 hrk hqm hrm
      by_cases hcl : cl = 1
      · have ecl : ((cl : Int) != 1) = false := by rw [Bool.eq_false_iff, ne_eq, bne_iff_ne]; omega
        have hin : isIn M.r0[k] = true := by rw [← HRK.out]; simp [isIn, hcl]
        have HIN := Lib.hid hin
        have eq1 : cl = 1 := hcl
        subst eq1
        clear hin hcl
        have hbw := below_new wr (.cells #[.slice rA nm.length rc, .int .u16 (ty : Int), .int .u16 1, .int .u32 (ttl : Int), .slice rdA dd.length rdc, .int .u16 (pr : Int), .int .u16 (we : Int), .int .u16 (po : Int), .slice rtA tg.length rtc] 49)
        have V16 : Vx (wr.alloc (.cells #[.slice rA nm.length rc, .int .u16 (ty : Int), .int .u16 1, .int .u32 (ttl : Int), .slice rdA dd.length rdc, .int .u16 (pr : Int), .int .u16 (we : Int), .int .u16 (po : Int), .slice rtA tg.length rtc] 49)) wr.heap.size 49 [.slice rA nm.length rc, .int .u16 (ty : Int), .int .u16 1, .int .u32 (ttl : Int), .slice rdA dd.length rdc, .int .u16 (pr : Int), .int .u16 (we : Int), .int .u16 (po : Int), .slice rtA tg.length rtc] := Vx.new wr _ _
        have hB5 := HB.out.trans (hbw.mono hBw)
        have HS5 := Lib.hid (qsrd_own (HO.out.far hbw) (by omega) HQ.out hB5 hB5.size)
        have HN5 : Hid (NRd (wr.alloc (.cells #[.slice rA nm.length rc, .int .u16 (ty : Int), .int .u16 1, .int .u32 (ttl : Int), .slice rdA dd.length rdc, .int .u16 (pr : Int), .int .u16 (we : Int), .int .u16 (po : Int), .slice rtA tg.length rtc] 49)) (wr.alloc (.cells #[.slice rA nm.length rc, .int .u16 (ty : Int), .int .u16 1, .int .u32 (ttl : Int), .slice rdA dd.length rdc, .int .u16 (pr : Int), .int .u16 (we : Int), .int .u16 (po : Int), .slice rtA tg.length rtc] 49)).heap.size rA rc nm) := Lib.hid ((HQM.out.1.1.below (hbw.mono hBw)).more (by have := hbw.size; omega))
        have HV16 := Lib.hid V16
        have HB5 := Lib.hid hB5
        clear V16 hbw hB5
        by_cases hany : ks.any (fun x => kq ty nm x.q) = true
        · have HANY := Lib.hid hany
          clear hany
          go_wp2_with (go_at_call 22; refine (anC1_at As cs _ ks wr.heap.size rA rc nm ty true HANY.out _ HS5.out (HV16.out.cell 0) (HV16.out.cell 1) HN5.out).mono ?_; rintro e w6 ⟨rfl, hb6⟩)
          go_roundw
          case rel =>
            exact ⟨k + 1, sum, all + 1, As, cs, ks, by omega, by go_num, rfl, by go_num, rfl, by omega, by omega, by omega, Lib.hid (HB5.out.trans (hb6.mono HB5.out.size)), Lib.hid ((HO.out.far (below_new wr _)).far hb6), HQ, Lib.hid (HI.out.seen hkm HIN.out (by rw [← HRK.out]; exact (any_kq _ _ _).1 HANY.out))⟩
          case measure => simp [intOf]; omega
        · have hany' : ks.any (fun x => kq ty nm x.q) = false := Bool.eq_false_iff.2 hany
          have HANY := Lib.hid hany'
          clear hany hany'
          have l16 : wr.heap.size < (wr.alloc (.cells #[.slice rA nm.length rc, .int .u16 (ty : Int), .int .u16 1, .int .u32 (ttl : Int), .slice rdA dd.length rdc, .int .u16 (pr : Int), .int .u16 (we : Int), .int .u16 (po : Int), .slice rtA tg.length rtc] 49)).heap.size := HV16.out.lt
          obtain ⟨g16, hg16⟩ : ∃ g, g = wr.heap.size := ⟨_, rfl⟩
          have hne16 : ∀ q, (Value.slice As ks.length cs).ownBlock = some q → q ≠ g16 := fun q hq => by have := OwM.block_lt HO.out q hq; omega
          have HG16 := Lib.hid hg16
          clear hg16
          go_upto_region 13 with (first
            | (at_builtin; refine wpList_appM _ rfl _ _ _ _ rfl w4.heap.size 3 42 i0 _ 32 Try.underlying26 hi hz0 hz1 hz2 rfl (by omega) (.slice As ks.length cs) ks.length (qcs ks) (OwM.alloc ((HO.out.far (below_new wr _)).far hb6) _) rfl 1 (QR.cells ⟨rA, rc, ⟨nm, ty, 1⟩⟩) (litM_src Try.underlying26 _ 3 _ 1 rfl (qcells_one _)) (by omega) (by have := HB6.out.size; simp; omega) ?_
               intro v7 w7 hown7 hgr7 hsz7
               obtain ⟨A7, cap7, rfl, hcap7, _, _⟩ := hown7.form
               have V7 : Vx w7 g16 49 [.slice rA nm.length rc, .int .u16 (ty : Int), .int .u16 1, .int .u32 (ttl : Int), .slice rdA dd.length rdc, .int .u16 (pr : Int), .int .u16 (we : Int), .int .u16 (po : Int), .slice rtA tg.length rtc] := ((V6.alloc _).grown hgr7.1 (fun e => hne16 g16 e.symm rfl))
               have B67 : Below w4.heap.size w6 w7 := ((below_new w6 _).mono (by have := HB6.out.size; omega)).trans (hgr7.below (OwM.lt HO.out) (by have := HB6.out.size; simp; omega))
               have HB7 := Lib.hid (HB6.out.trans B67)
               rw [HG16.out] at V7
               obtain ⟨x0, x1, x2, x3, x4, x5, x6, x7, x8⟩ := V7.c9
               obtain ⟨m0, m1, m2, m3, m4, m5⟩ := (HBM.out.1.below HB7.out l11).c6)
            | (go_at_call 22
               refine (anC1_at As cs _ ks wr.heap.size rA rc nm ty false HANY.out _ HS5.out (HV16.out.cell 0) (HV16.out.cell 1) HN5.out).mono ?_
               rintro e w6 ⟨rfl, hb6⟩
               have V6 := HV16.out.below hb6 HV16.out.lt
               have HB6 := Lib.hid (HB5.out.trans (hb6.mono HB5.out.size))
               obtain ⟨y0, y1, y2, y3, y4, y5, y6, y7, y8⟩ := V6.c9
               have hz6 := V6.lt
               rw [← HG16.out] at V6))
          have hsm : ∀ q ∈ raM, q.r.q.nm.length * 16 ≤ 140737488355328 ∧ q.r.tg.length * 16 ≤ 140737488355328 := fun q hq => by
            have := right_small2 (HRR.out q.r (by rw [← HRA.out]; exact List.mem_map.2 ⟨_, hq, rfl⟩))
            omega
          have HSM := Lib.hid hsm
          clear hsm
          go_wp2_with (first
            | (go_at_call 24
               refine (answers_at ⟨idM, flM, qAM, qcM, qsM, some ⟨bq, oq, none⟩, acM, raM, bAM, bdM, rbM, cAM, ccM, rcM⟩ rA rc nm ty w7 (HBM.out.go HB7.out).2 ((HQR4.out.1.below HB7.out).more HB7.out.size) HQR4.out.2.1 HSM.out).mono ?_
               rw [HXM.out]
               rintro e w8 ⟨l, Ao, co, rfl, hl, hro, hdo, hb8⟩
               have hl10 : l.length ≤ 10 := by
                 have h5 := congrArg List.length hl
                 rw [List.length_map] at h5
                 have := ans_le M nm ty
                 have := HRAL.out
                 omega
               have HB8 := Lib.hid (HB7.out.trans (hb8.mono HB7.out.size))
               have V8 := V7.below hb8 V7.lt
               obtain ⟨u0, u1, u2, u3, u4, u5, u6, u7, u8⟩ := V8.c9
               obtain ⟨n0, n1, n2, n3, n4, n5⟩ := (HBM.out.1.below HB8.out l11).c6))
          have hlm : ∀ z ∈ l, z.r ∈ M.r0 := fun z hz => by
            have : z.r ∈ answersM M nm ty := by rw [← hl]; exact List.mem_map.2 ⟨_, hz, rfl⟩
            exact (List.mem_filter.1 this).1
          have hll : l.length = (answersM M nm ty).length := by rw [← hl, List.length_map]
          have ORD := Lib.hid (rwR_rd hro hdo (fun z hz => HRR.out _ (hlm z hz)) (fun z hz => HKR.out _ (hlm z hz)) (by omega))
          have HL := Lib.hid hl
          have HLL := Lib.hid hll
          have HV8 := Lib.hid V8
          have HO8 := Lib.hid ((hown7).far hb8)
          have l168 : wr.heap.size < w8.heap.size := V8.lt
          have hnl1 : nm.length ≤ 140737488355328 := by have := hrs.1; omega
          clear hlm hll hro hdo hl V8 V7 V6 HS5 HV16 HN5 hown7 hgr7 hb8 hb6 hne16 x0 x1 x2 x3 x4 x5 x6 x7 x8 m0 m1 m2 m3 m4 m5 y0 y1 y2 y3 y4 y5 y6 y7 y8 d0 d1 d2 d3 d4 d5 d6 d7 d8 u0 u1 u2 u3 u4 u5 u6 u7 u8 n0 n1 n2 n3 n4 n5 B67
          obtain ⟨wo, hwo⟩ : ∃ x, x = wr := ⟨wr, rfl⟩
          subst hwo
          go_loopw [18, 66] (fun vat vj wq => ∃ j at_ : Nat, j ≤ raM.length ∧ vj = .int .i64 j ∧ vat = .int .i64 at_ ∧ at_ ≤ j ∧ Hid (at_ = ((M.r0.take j).filter (isAns nm ty)).length) ∧ Hid (Below w8.heap.size w8 wq)) (fun _ vj _ => raM.length - (intOf vj).toNat)
          case atStart => exact ⟨0, 0, Nat.zero_le _, rfl, rfl, Nat.le_refl _, Lib.hid rfl, Lib.hid (Below.refl _ _)⟩
          case round =>
            obtain ⟨j, at_, hj, rfl, rfl, hatj, HAT, HWQ⟩ := hrel
            obtain ⟨wq, hwq⟩ : ∃ x, x = wr := ⟨wr, rfl⟩
            subst hwq
            have hB8q := HB8.out.trans (HWQ.out.mono HB8.out.size)
            have V16 := HV8.out.below HWQ.out l168
            obtain ⟨u0, u1, u2, u3, u4, u5, u6, u7, u8⟩ := V16.c9
            rcases Nat.lt_or_ge j raM.length with hjlt | hjge
            · have HRq := Lib.hid (HBM.out.2.2.2.2.1.below hB8q)
              obtain ⟨bz, oz, hae, hbz4, hqz⟩ := HRq.out.at_ hjlt
              have hbz : bz < wq.heap.size := Nat.lt_of_lt_of_le hbz4 hB8q.size
              have l16q : wo.heap.size < wq.heap.size := V16.lt
              have h9z := hqz hjlt
              have hjm : j < M.r0.length := by rw [← HRAL.out]; exact hjlt
              have hyk : raM[j].r = M.r0[j] := by
                have : (raM.map RR.r)[j]'(by simpa using hjlt) = raM[j].r := by simp
                rw [← this]
                congr 1
              have hft : (M.r0.take (j + 1)).filter (isAns nm ty) = (M.r0.take j).filter (isAns nm ty) ++ (if isAns nm ty M.r0[j] = true then [M.r0[j]] else []) := by
                rw [List.take_succ_eq_append_getElem hjm, List.filter_append]
                congr 1
                rw [List.filter_cons]
                split <;> rfl
              have hfa := fun h => filter_at (isAns nm ty) M.r0 j hjm h
              obtain ⟨y, hy⟩ : ∃ y, y = raM[j] := ⟨_, rfl⟩
              rw [← hy] at h9z hyk
              have hymem : y ∈ raM := by rw [hy]; exact List.getElem_mem hjlt
              have HXR := Lib.hid (HBM.out.2.2.2.2.1.2.2.2.2 y hymem)
              have hys := right_small2 (HRR.out y.r (by rw [← HRA.out]; exact List.mem_map.2 ⟨_, hymem, rfl⟩))
              clear hqz hy hymem
              obtain ⟨yA, yc, ydA, ydc, ytA, ytc, ⟨⟨ynm, yty, ycl⟩, yttl, ydd, ypr, ywe, ypo, ytg⟩⟩ := y
              have hbo : (some (⟨bq, oq, none⟩ : Addr)) = some ⟨bz, oz, none⟩ := hae
              obtain ⟨rfl, rfl⟩ : bz = bq ∧ oz = oq := by
                have := Option.some.inj hbo
                injection this with e1 e2
                exact ⟨e1.symm, e2.symm⟩
              obtain ⟨e0, e1, e2, e3, e4, e5, e6, e7, e8⟩ := h9z.cells
              simp only at e0 e1 e2 e3 e4 e5 e6 e7 e8 hyk hys
              rw [← hyk] at hft hfa
              have HF1 := Lib.hid hft
              have HFA := Lib.hid hfa
              have hyl1 : ynm.length ≤ 140737488355328 := by have := hys.1; omega
              have hyl2 : ytg.length ≤ 140737488355328 := by have := hys.2; omega
              clear h9z hyk hft hfa hae hbo
              by_cases h1 : ycl = 1
              · subst h1
                have f1 : (((1 : Nat) : Int) == 1) = true := by decide
                by_cases h2 : yty = ty
                · subst h2
                  have f2 : ((yty : Int) == (yty : Int)) = true := by simp
                  have h8 : Below w8.heap.size w8 (wq.alloc (.cells #[.slice yA ynm.length yc, .int .u16 (yty : Int), .int .u16 1, .int .u32 (yttl : Int), .slice ydA ydd.length ydc, .int .u16 (ypr : Int), .int .u16 (ywe : Int), .int .u16 (ypo : Int), .slice ytA ytg.length ytc] 49)) := HWQ.out.alloc HWQ.out.size _
                  have h4 : Below w4.heap.size w4 (wq.alloc (.cells #[.slice yA ynm.length yc, .int .u16 (yty : Int), .int .u16 1, .int .u32 (yttl : Int), .slice ydA ydd.length ydc, .int .u16 (ypr : Int), .int .u16 (ywe : Int), .int .u16 (ypo : Int), .slice ytA ytg.length ytc] 49)) := hB8q.alloc hB8q.size _
                  by_cases h3 : ynm = nm
                  · have HNM := Lib.hid (show decide (ynm = nm) = true by simp [h3])
                    have HAN := Lib.hid (show isAns nm yty (⟨⟨ynm, yty, 1⟩, yttl, ydd, ypr, ywe, ypo, ytg⟩ : Rc) = true by simp [isAns, h3])
                    have hz := HFA.out HAN.out
                    rw [← HAT.out] at hz
                    have hla : at_ < l.length := by
                      rw [HLL.out]
                      exact (List.getElem?_eq_some_iff.1 hz).1
                    have hzr : l[at_].r = (⟨⟨ynm, yty, 1⟩, yttl, ydd, ypr, ywe, ypo, ytg⟩ : Rc) := by
                      have h5 : (l.map RR.r)[at_]? = some (⟨⟨ynm, yty, 1⟩, yttl, ydd, ypr, ywe, ypo, ytg⟩ : Rc) := by rw [HL.out]; exact hz
                      rw [List.getElem?_map, List.getElem?_eq_getElem hla] at h5
                      exact Option.some.inj h5
                    obtain ⟨bo', oo', hoe, hbo8, hoc⟩ := (ORD.out.below HWQ.out).at_ hla
                    have hboq : bo' < wq.heap.size := Nat.lt_of_lt_of_le hbo8 HWQ.out.size
                    have h9o := hoc hla
                    have hzd := ORD.out.2.2.2.2 l[at_] (List.getElem_mem hla)
                    obtain ⟨z, hz'⟩ : ∃ z, z = l[at_] := ⟨_, rfl⟩
                    rw [← hz'] at h9o hzr hzd
                    clear hoc hz' hz
                    obtain ⟨zA, zc, zdA, zdc, ztA, ztc, zr⟩ := z
                    simp only at hzr
                    subst hzr
                    obtain ⟨z0, z1, z2, z3, z4, z5, z6, z7, z8⟩ := h9o.cells
                    simp only at z0 z1 z2 z3 z4 z5 z6 z7 z8
                    have HZ := Lib.hid hzd
                    have hlaI : (at_ : Int) < (l.length : Int) := by omega
                    have hge0 : decide ((l.length : Int) ≤ (at_ : Int)) = false := by simp; omega
                    have H9O := Lib.hid h9o
                    clear h9o hzd h3
                    have hoe' := Lib.hid hoe
                    subst hoe
                    go_upto_region 20 with (go_at_call 20
                                            refine (seq_at _ yA rA yc rc _ _ ynm nm true HNM.out rfl rfl ((HXR.out.1.1.1.below h4).more h4.size) ((HQR4.out.1.1.below h4).more h4.size) hyl1 hnl1).mono ?_
                                            rintro e wz1 ⟨rfl, q1, rfl⟩)
                    have hT8 := bl_drewN h8 q1
                    have hT4 := bl_drewN h4 q1
                    have hTq : Below wq.heap.size wq ((wq.alloc (.cells #[.slice yA ynm.length yc, .int .u16 (yty : Int), .int .u16 1, .int .u32 (yttl : Int), .slice ydA ydd.length ydc, .int .u16 (ypr : Int), .int .u16 (ywe : Int), .int .u16 (ypo : Int), .slice ytA ytg.length ytc] 49)).drewN q1) := bl_drewN (below_new wq _) q1
                    have VT : Vx ((wq.alloc (.cells #[.slice yA ynm.length yc, .int .u16 (yty : Int), .int .u16 1, .int .u32 (yttl : Int), .slice ydA ydd.length ydc, .int .u16 (ypr : Int), .int .u16 (ywe : Int), .int .u16 (ypo : Int), .slice ytA ytg.length ytc] 49)).drewN q1) wq.heap.size 49 [.slice yA ynm.length yc, .int .u16 (yty : Int), .int .u16 1, .int .u32 (yttl : Int), .slice ydA ydd.length ydc, .int .u16 (ypr : Int), .int .u16 (ywe : Int), .int .u16 (ypo : Int), .slice ytA ytg.length ytc] := (Vx.new wq _ _).drewN q1
                    generalize (wq.alloc (.cells #[.slice yA ynm.length yc, .int .u16 (yty : Int), .int .u16 1, .int .u32 (yttl : Int), .slice ydA ydd.length ydc, .int .u16 (ypr : Int), .int .u16 (ywe : Int), .int .u16 (ypo : Int), .slice ytA ytg.length ytc] 49)).drewN q1 = wT at *
                    have hN9 : Nine wT bo' (oo' + at_ * 9) ⟨zA, zc, zdA, zdc, ztA, ztc, (⟨⟨ynm, yty, 1⟩, yttl, ydd, ypr, ywe, ypo, ytg⟩ : Rc)⟩ := fun j' u' hu' => (hTq.cell (p := ⟨bo', oo' + at_ * 9 + j', none⟩) hboq).trans (H9O.out j' u' hu')
                    clear z0 z1 z2 z3 z4 z5 z6 z7 z8
                    obtain ⟨z0, z1, z2, z3, z4, z5, z6, z7, z8⟩ := hN9.cells
                    simp only at z0 z1 z2 z3 z4 z5 z6 z7 z8
                    obtain ⟨t0, t1, t2, t3, t4, t5, t6, t7, t8⟩ := VT.c9
                    have HE3 := Lib.hid (fun m => seq_at (wT.drewN m) ztA ytA ztc ytc _ _ ytg ytg true (by simp) rfl rfl (((HZ.out.2.2.1.1.below hT8).more hT8.size).drewN m) (((HXR.out.2.2.1.1.below hT4).more hT4.size).drewN m) hyl2 hyl2)
                    have HE2 : Hid (∀ m, Calls Try.prog 25 #[.slice zdA ydd.length zdc, .slice ydA ydd.length ydc] (wT.drewN m) fun e w' => e = .returned (.bool true) ∧ w' = wT.drewN m) := Lib.hid (fun m => by
                      have := beq_any zdA ydA zdc ydc ydd ydd (wT.drewN m) wT.heap.size (((HZ.out.2.1.1.below hT8).more hT8.size).drewN m) (((HXR.out.2.1.1.below hT4).more hT4.size).drewN m)
                      rw [decide_eq_true rfl] at this
                      exact this)
                    have HT8 := Lib.hid hT8
                    clear hN9 VT hTq hT8 hT4 h8 h4
                    go_quiet (first
                      | (go_at_call 20; exact Calls.quiet_of (HE3.out _))
                      | (go_at_call 25; exact Calls.quiet_of_same (HE2.out _)))
                    go_wp2_with fail
                    go_roundw
                    case rel => exact ⟨j + 1, at_ + 1, by omega, by go_num, by go_num, by omega, Lib.hid (by rw [HF1.out, if_pos HAN.out, List.length_append, ← HAT.out]; rfl), Lib.hid (bl_drewN HT8.out nq)⟩
                    case measure => simp [intOf]; omega
                  · have HNM := Lib.hid (show decide (ynm = nm) = false by simp [h3])
                    have HAN := Lib.hid (show isAns nm yty (⟨⟨ynm, yty, 1⟩, yttl, ydd, ypr, ywe, ypo, ytg⟩ : Rc) = false by simp [isAns, h3])
                    clear h3
                    go_wp2_with (first
                      | (go_at_call 20
                         refine (seq_at _ yA rA yc rc _ _ ynm nm false HNM.out rfl rfl ((HXR.out.1.1.1.below h4).more h4.size) ((HQR4.out.1.1.below h4).more h4.size) hyl1 hnl1).mono ?_
                         rintro e wz1 ⟨rfl, q1, rfl⟩))
                    go_roundw
                    case rel => exact ⟨j + 1, at_, by omega, by go_num, rfl, by omega, Lib.hid (by rw [HF1.out, if_neg (by rw [HAN.out]; simp), List.append_nil]; exact HAT.out), Lib.hid (bl_drewN h8 q1)⟩
                    case measure => simp [intOf]; omega
                · have f2 : ((yty : Int) == (ty : Int)) = false := by rw [beq_eq_false_iff_ne]; omega
                  have HAN := Lib.hid (show isAns nm ty (⟨⟨ynm, yty, 1⟩, yttl, ydd, ypr, ywe, ypo, ytg⟩ : Rc) = false by simp [isAns, h2])
                  clear h2
                  have h8 : Below w8.heap.size w8 (wq.alloc (.cells #[.slice yA ynm.length yc, .int .u16 (yty : Int), .int .u16 1, .int .u32 (yttl : Int), .slice ydA ydd.length ydc, .int .u16 (ypr : Int), .int .u16 (ywe : Int), .int .u16 (ypo : Int), .slice ytA ytg.length ytc] 49)) := HWQ.out.alloc HWQ.out.size _
                  have h4 : Below w4.heap.size w4 (wq.alloc (.cells #[.slice yA ynm.length yc, .int .u16 (yty : Int), .int .u16 1, .int .u32 (yttl : Int), .slice ydA ydd.length ydc, .int .u16 (ypr : Int), .int .u16 (ywe : Int), .int .u16 (ypo : Int), .slice ytA ytg.length ytc] 49)) := hB8q.alloc hB8q.size _
                  go_wp2_with fail
                  go_roundw
                  case rel => exact ⟨j + 1, at_, by omega, by go_num, rfl, by omega, Lib.hid (by rw [HF1.out, if_neg (by rw [HAN.out]; simp), List.append_nil]; exact HAT.out), Lib.hid h8⟩
                  case measure => simp [intOf]; omega
              · have f1 : ((ycl : Int) == 1) = false := by rw [beq_eq_false_iff_ne]; omega
                have HAN := Lib.hid (show isAns nm ty (⟨⟨ynm, yty, ycl⟩, yttl, ydd, ypr, ywe, ypo, ytg⟩ : Rc) = false by simp [isAns, h1])
                clear h1
                have h8 : Below w8.heap.size w8 (wq.alloc (.cells #[.slice yA ynm.length yc, .int .u16 (yty : Int), .int .u16 (ycl : Int), .int .u32 (yttl : Int), .slice ydA ydd.length ydc, .int .u16 (ypr : Int), .int .u16 (ywe : Int), .int .u16 (ypo : Int), .slice ytA ytg.length ytc] 49)) := HWQ.out.alloc HWQ.out.size _
                have h4 : Below w4.heap.size w4 (wq.alloc (.cells #[.slice yA ynm.length yc, .int .u16 (yty : Int), .int .u16 (ycl : Int), .int .u32 (yttl : Int), .slice ydA ydd.length ydc, .int .u16 (ypr : Int), .int .u16 (ywe : Int), .int .u16 (ypo : Int), .slice ytA ytg.length ytc] 49)) := hB8q.alloc hB8q.size _
                go_wp2_with fail
                go_roundw
                case rel => exact ⟨j + 1, at_, by omega, by go_num, rfl, by omega, Lib.hid (by rw [HF1.out, if_neg (by rw [HAN.out]; simp), List.append_nil]; exact HAT.out), Lib.hid h8⟩
                case measure => simp [intOf]; omega
            · have hjj : j = raM.length := by omega
              subst hjj
              have hfin : at_ = l.length := by
                rw [HAT.out, HLL.out, HRAL.out, List.take_of_length_le (Nat.le_refl _)]
                rfl
              subst hfin
              have hrefl : ((l.length : Int) != (l.length : Int)) = false := by simp
              go_wp2_with fail
              go_roundw
              case rel =>
                refine ⟨k + 1, sum + l.length, all + 1, A7, cap7, ks ++ [⟨rA, rc, ⟨nm, ty, 1⟩⟩], by omega, by go_num, by go_num, by go_num, by rw [List.length_append]; rfl, by rw [List.length_append]; simp; omega, by omega, by omega, Lib.hid hB8q, Lib.hid ?_, Lib.hid (mem_snoc HQ.out HQR4.out), Lib.hid ?_⟩
                · rw [List.length_append, qcs_snoc]
                  exact HO8.out.far HWQ.out
                · have hI := HI.out.add hkm HIN.out (by
                    rw [← HRK.out]
                    intro h5
                    have h6 := (any_kq ks ty nm).2 h5
                    rw [HANY.out] at h6
                    cases h6)
                  rw [← HRK.out] at hI
                  rw [List.map_append, HLL.out]
                  exact hI
              case measure => simp [intOf]; omega
      · have ecl : ((cl : Int) != 1) = true := by rw [bne_iff_ne]; omega
        have hin : isIn M.r0[k] = false := by rw [← HRK.out]; simp [isIn, hcl]
        have HIN := Lib.hid hin
        clear hin hcl
        go_wp2_with fail
        go_roundw
        case rel =>
          exact ⟨k + 1, sum, all, As, cs, ks, by omega, by go_num, rfl, rfl, rfl, by omega, by omega, by omega, Lib.hid (HB.out.alloc hBw _), Lib.hid (HO.out.alloc _), HQ, Lib.hid (HI.out.skip hkm HIN.out)⟩
        case measure => simp [intOf]; omega
    · have hkk : k = raM.length := by omega
      subst hkk
      have hse := HI.out.fin (Nat.le_of_eq HRAL.out.symm)
      have hfin0 : ∀ (nm : List (List UInt8)) (ty : Nat), ks.any (fun x => kq ty nm x.q) = false → answersM M nm ty = [] := fun nm ty h => HI.out.none_ (Nat.le_of_eq HRAL.out.symm) (fun h5 => by
        have h6 := (any_kq ks ty nm).2 h5
        rw [h] at h6
        cases h6)
      have HFIN := Lib.hid hfin0
      clear hfin0
      subst hse
      have hBw4 := HB4.out.trans (HB.out.mono HB4.out.size)
      obtain ⟨N, hN⟩ : ∃ N, N = madeN other := ⟨_, rfl⟩
      have hNs : sizeN N ≤ 169 := by rw [hN]; exact made_size other
      have HN := Lib.hid hN
      clear hN
      have hsm : ∀ q ∈ raM, q.r.q.nm.length * 16 ≤ 140737488355328 ∧ q.r.tg.length * 16 ≤ 140737488355328 := fun q hq => by
        have := right_small2 (HRR.out q.r (by rw [← HRA.out]; exact List.mem_map.2 ⟨_, hq, rfl⟩))
        omega
      have HSM := Lib.hid hsm
      have HBw4 := Lib.hid hBw4
      clear hsm hBw4
      by_cases hany : ks.any (fun x => kq kind N x.q) = true
      · have HANY := Lib.hid hany
        clear hany
        go_wp2_with (first
          | (go_at_call 22
             refine (anC2_at As cs _ ks g9 w5.heap.size A10 c10 N kind true HANY.out _ HS6.out V21c V9c HN6.out).mono ?_
             rintro e w7 ⟨rfl, hb7⟩)
          | (go_at_call 17
             refine (made_any A2 c2 other wr ((HR2.out.below HBw4.out).more HBw4.out.size) hc2 hb2 HX2.out).mono ?_
             rw [← HN.out]
             rintro e w5 ⟨v5, rfl, ho5, hb5⟩
             obtain ⟨A10, c10, rfl, hc10, hr10⟩ := ho5.form6 _ (sc_length _)
             have hn6 : Below w5.heap.size w5 (w5.alloc (.cells #[.slice A10 N.length c10] 37)) := below_new w5 _
             have hB5 := HB.out.trans (hb5.mono hBw)
             have HB6 := Lib.hid (hB5.trans (hn6.mono hB5.size))
             have V9c := (HV9.out.below HB6.out l9).cell 0
             have V21c := (Vx.new w5 37 [.slice A10 N.length c10]).cell 0
             have HN6 : Hid (NRd (w5.alloc (.cells #[.slice A10 N.length c10] 37)) (w5.alloc (.cells #[.slice A10 N.length c10] 37)).heap.size A10 c10 N) := Lib.hid ⟨(hr10.below hn6).more hn6.size, hc10, by omega⟩
             have HS6 := Lib.hid (qsrd_own ((HO.out.far hb5).far hn6) (by omega) HQ.out HB6.out HB6.out.size)
             simp only [List.getElem?_cons_zero] at V9c V21c))
        go_ret
        exact ⟨ret_bool (by simp), HB4.out.trans ((HB6.out.trans (hb7.mono HB6.out.size)).mono HB4.out.size)⟩
      · have hany' : ks.any (fun x => kq kind N x.q) = false := Bool.eq_false_iff.2 hany
        have HANY := Lib.hid hany'
        have HE := Lib.hid (HFIN.out N kind hany')
        clear hany hany'
        go_wp2_with (first
          | (go_at_call 24
             refine (answers_at ⟨idM, flM, qAM, qcM, qsM, aAM, acM, raM, bAM, bdM, rbM, cAM, ccM, rcM⟩ A10 c10 N kind w7 (HBM.out.go HB7.out).2 ((HN6.out.below hb7).more hb7.size) hkind HSM.out).mono ?_
             rw [HXM.out, HE.out]
             rintro e w8 ⟨l, Ao, co, rfl, hl, _, _, hb8⟩
             obtain rfl : l = [] := List.map_eq_nil_iff.1 hl)
          | (go_at_call 22
             refine (anC2_at As cs _ ks g9 w5.heap.size A10 c10 N kind false HANY.out _ HS6.out V21c V9c HN6.out).mono ?_
             rintro e w7 ⟨rfl, hb7⟩
             have HB7 := Lib.hid (HB6.out.trans (hb7.mono HB6.out.size))
             obtain ⟨m0, m1, m2, m3, m4, m5⟩ := (HBM.out.1.below HB7.out l11).c6
             have V9d : w7.cell? ⟨g9, 0, none⟩ = some (.int .u16 (kind : Int)) := (HV9.out.below HB7.out l9).cell 0
             have V21d : w7.cell? ⟨w5.heap.size, 0, none⟩ = some (.slice A10 N.length c10) := ((Vx.new w5 37 [.slice A10 N.length c10]).below hb7 (Vx.new w5 _ _).lt).cell 0)
          | (go_at_call 17
             refine (made_any A2 c2 other wr ((HR2.out.below HBw4.out).more HBw4.out.size) hc2 hb2 HX2.out).mono ?_
             rw [← HN.out]
             rintro e w5 ⟨v5, rfl, ho5, hb5⟩
             obtain ⟨A10, c10, rfl, hc10, hr10⟩ := ho5.form6 _ (sc_length _)
             have hn6 : Below w5.heap.size w5 (w5.alloc (.cells #[.slice A10 N.length c10] 37)) := below_new w5 _
             have hB5 := HB.out.trans (hb5.mono hBw)
             have HB6 := Lib.hid (hB5.trans (hn6.mono hB5.size))
             have V9c := (HV9.out.below HB6.out l9).cell 0
             have V21c := (Vx.new w5 37 [.slice A10 N.length c10]).cell 0
             have HN6 : Hid (NRd (w5.alloc (.cells #[.slice A10 N.length c10] 37)) (w5.alloc (.cells #[.slice A10 N.length c10] 37)).heap.size A10 c10 N) := Lib.hid ⟨(hr10.below hn6).more hn6.size, hc10, by omega⟩
             have HS6 := Lib.hid (qsrd_own ((HO.out.far hb5).far hn6) (by omega) HQ.out HB6.out HB6.out.size)
             simp only [List.getElem?_cons_zero] at V9c V21c))
        go_ret
        exact ⟨ret_bool (by simp), HB4.out.trans ((HB7.out.trans (hb8.mono HB7.out.size)).mono HB4.out.size)⟩
end Go.Proofs.Ytmhehgalfmdldaa
