/-
  dns: what is written behind the head does not hang on the head (plain); small laws for messages that Made makes.
-/
import Derived.Test.YtmhehgalfmdldaaDnsB2
import Derived.Test.YtmhehgalfmdldaaDnsOp
import Derived.Test.YtmhehgalfmdldaaDnsRt
set_option linter.unusedVariables false
set_option linter.unusedSimpArgs false
namespace Go.Proofs.Ytmhehgalfmdldaa
open Go.RowKit
/-- the way of a reading from p on lies behind the head -/
inductive Sf (b : List UInt8) : Nat → Prop
  | stop (p : Nat) (h : 12 ≤ p) (hp : p < b.length) (h0 : (b.getD p 0).toNat = 0) : Sf b p
  | lab (p : Nat) (h : 12 ≤ p) (hp : p < b.length) (h0 : (b.getD p 0).toNat ≠ 0) (h1 : (b.getD p 0).toNat < 64) (k : Sf b (p + (1 + (b.getD p 0).toNat))) : Sf b p
  | ptr (p : Nat) (h : 12 ≤ p) (hp : p + 1 < b.length) (h0 : 192 ≤ (b.getD p 0).toNat) (k : Sf b (((b.getD p 0).toNat - 192) * 256 + (b.getD (p + 1) 0).toNat)) : Sf b p
theorem Sf.lo {b : List UInt8} {p : Nat} (h : Sf b p) : 12 ≤ p := by cases h <;> assumption
theorem getD_app {b t : List UInt8} {p : Nat} (h : p < b.length) : (b ++ t).getD p 0 = b.getD p 0 := by
  rw [List.getD_eq_getElem?_getD, List.getD_eq_getElem?_getD, List.getElem?_append_left h]
theorem Sf.app {b : List UInt8} {p : Nat} (h : Sf b p) (t : List UInt8) : Sf (b ++ t) p := by
  induction h with
  | stop p h hp h0 => exact .stop p h (by simp; omega) (by rw [getD_app hp]; exact h0)
  | lab p h hp h0 h1 _ ih => exact .lab p h (by simp; omega) (by rw [getD_app hp]; exact h0) (by rw [getD_app hp]; exact h1) (by rw [getD_app hp]; exact ih)
  | ptr p h hp h0 _ ih => exact .ptr p h (by simp; omega) (by rw [getD_app (by omega)]; exact h0) (by rw [getD_app (by omega), getD_app hp]; exact ih)
/-- the same bytes behind the head -/
def Ag (b c : List UInt8) : Prop := b.length = c.length ∧ ∀ p, 12 ≤ p → b.getD p 0 = c.getD p 0
theorem Ag.app {b c : List UInt8} (h : Ag b c) (t : List UInt8) : Ag (b ++ t) (c ++ t) := by
  refine ⟨by simp [h.1], fun p hp => ?_⟩
  rcases Nat.lt_or_ge p b.length with h1 | h1
  · rw [getD_app h1, getD_app (by rw [← h.1]; exact h1)]; exact h.2 p hp
  · rw [List.getD_eq_getElem?_getD, List.getD_eq_getElem?_getD, List.getElem?_append_right h1, List.getElem?_append_right (by rw [← h.1]; exact h1), h.1]
theorem Ag.piece {b c : List UInt8} (h : Ag b c) (p k : Nat) (hp : 12 ≤ p) : (b.drop p).take k = (c.drop p).take k := by
  apply List.ext_getElem?
  intro i
  rw [List.getElem?_take, List.getElem?_take]
  split
  · rw [List.getElem?_drop, List.getElem?_drop]
    have := h.2 (p + i) (by omega)
    rcases Nat.lt_or_ge (p + i) b.length with h1 | h1
    · rw [List.getD_eq_getElem?_getD, List.getD_eq_getElem?_getD, List.getElem?_eq_getElem h1, List.getElem?_eq_getElem (by rw [← h.1]; exact h1)] at this
      rw [List.getElem?_eq_getElem h1, List.getElem?_eq_getElem (by rw [← h.1]; exact h1)]
      simpa using this
    · rw [List.getElem?_eq_none h1, List.getElem?_eq_none (by rw [← h.1]; exact h1)]
  · rfl
theorem Sf.rd {b c : List UInt8} {p : Nat} (h : Sf b p) (ha : Ag b c) : ∀ (f bg en nx sz : Nat) (out : List (List UInt8)), Proofs.Ytmhehgalfmdldaa.rd b f bg en p nx sz out = Proofs.Ytmhehgalfmdldaa.rd c f bg en p nx sz out := by
  induction h with
  | stop p h hp h0 =>
    intro f bg en nx sz out
    cases f with
    | zero => rfl
    | succ f =>
      have e := ha.2 p h
      rw [Proofs.Ytmhehgalfmdldaa.rd, Proofs.Ytmhehgalfmdldaa.rd, ← e, if_pos h0, if_pos h0]
  | lab p h hp h0 h1 _ ih =>
    intro f bg en nx sz out
    cases f with
    | zero => rfl
    | succ f =>
      have e := ha.2 p h
      have e2 := ha.piece (p + 1) (b.getD p 0).toNat (by omega)
      rw [Proofs.Ytmhehgalfmdldaa.rd, Proofs.Ytmhehgalfmdldaa.rd, ← e, if_neg h0, if_neg h0, if_pos h1, if_pos h1, ih, e2]
  | ptr p h hp h0 _ ih =>
    intro f bg en nx sz out
    cases f with
    | zero => rfl
    | succ f =>
      have e := ha.2 p h
      have e2 := ha.2 (p + 1) (by omega)
      rw [Proofs.Ytmhehgalfmdldaa.rd, Proofs.Ytmhehgalfmdldaa.rd, ← e, ← e2]
      rw [if_neg (show ¬ (b.getD p 0).toNat = 0 by omega), if_neg (show ¬ (b.getD p 0).toNat < 64 by omega), if_neg (show ¬ (b.getD p 0).toNat < 192 by omega), ih]
      rw [if_neg (show ¬ (b.getD p 0).toNat = 0 by omega), if_neg (show ¬ (b.getD p 0).toNat < 64 by omega), if_neg (show ¬ (b.getD p 0).toNat < 192 by omega)]
theorem Sf.read {b c : List UInt8} {p : Nat} (h : Sf b p) (ha : Ag b c) : readN b p = readN c p := by
  unfold readN rdM
  rw [← ha.1, h.rd ha]
theorem chain_ag {b c : List UInt8} (ha : Ag b c) : ∀ (f p : Nat), 12 ≤ p → chain b f p = chain c f p := by
  intro f
  induction f with
  | zero => intro p _; rfl
  | succ f ih =>
    intro p hp
    have e := ha.2 p hp
    have e2 := ha.2 (p + (1 + (b.getD p 0).toNat)) (by omega)
    rw [chain, chain, ← e, e2, ih _ (by omega)]
theorem chain_sf {b : List UInt8} : ∀ (f p : Nat), Sf b p → ∀ x ∈ chain b f p, ∃ q : Nat, x = (q : Int) ∧ Sf b q := by
  intro f
  induction f with
  | zero => intro p _ x hx; cases hx
  | succ f ih =>
    intro p h x hx
    rw [chain] at hx
    split at hx
    · rename_i hc
      have hs : Sf b (p + (1 + (b.getD p 0).toNat)) := by
        cases h with
        | stop _ _ _ h0 => omega
        | lab _ _ _ _ _ k => exact k
        | ptr _ _ _ h0 _ => omega
      rcases List.mem_append.1 hx with hx | hx
      · split at hx
        · rw [List.mem_singleton.1 hx]; exact ⟨_, rfl, hs⟩
        · cases hx
      · exact ih _ hs x hx
    · cases hx
/-- all known places lie behind the head -/
def Kn (b : List UInt8) (known : List Int) : Prop := ∀ x ∈ known, ∃ q : Nat, x = (q : Int) ∧ Sf b q
theorem Kn.app {b : List UInt8} {known : List Int} (h : Kn b known) (t : List UInt8) : Kn (b ++ t) known := fun x hx => by
  obtain ⟨q, h1, h2⟩ := h x hx
  exact ⟨q, h1, h2.app t⟩
theorem Kn.places {b : List UInt8} {known : List Int} (h : Kn b known) : ∀ x ∈ placesN b known, ∃ q : Nat, x = (q : Int) ∧ Sf b q := by
  intro x hx
  unfold placesN placesU at hx
  rw [List.mem_mergeSort, List.mem_flatMap] at hx
  obtain ⟨y, hy, hx⟩ := hx
  obtain ⟨q, rfl, hs⟩ := h y hy
  unfold place1 at hx
  split at hx
  · rcases List.mem_cons.1 hx with rfl | hx
    · exact ⟨q, rfl, hs⟩
    · exact chain_sf _ _ (by simpa using hs) x hx
  · cases hx
theorem places_ag {b c : List UInt8} {known : List Int} (ha : Ag b c) (h : Kn b known) : placesN b known = placesN c known := by
  have : placesU b known = placesU c known := by
    unfold placesU
    have : ∀ (l : List Int), (∀ x ∈ l, x ∈ known) → l.flatMap (place1 b) = l.flatMap (place1 c) := by
      intro l
      induction l with
      | nil => intro _; rfl
      | cons y l ih =>
        intro hl
        rw [List.flatMap_cons, List.flatMap_cons, ih (fun x hx => hl x (by simp [hx]))]
        obtain ⟨q, rfl, hs⟩ := h y (hl y (by simp))
        congr 1
        unfold place1
        rw [← ha.1]
        simp only [Int.toNat_natCast]
        rw [← hs.read ha, chain_ag ha _ _ hs.lo]
    exact this known (fun _ h => h)
  unfold placesN
  rw [this]
theorem find_ag {b c : List UInt8} (ha : Ag b c) (s : List (List UInt8)) : ∀ (l : List Int), (∀ x ∈ l, ∃ q : Nat, x = (q : Int) ∧ Sf b q) → l.find? (hit b s) = l.find? (hit c s) := by
  intro l
  induction l with
  | nil => intro _; rfl
  | cons y l ih =>
    intro h
    obtain ⟨q, rfl, hs⟩ := h y (by simp)
    have e : hit b s (q : Int) = hit c s (q : Int) := by
      have e := hs.read ha
      unfold hit
      simp only [Int.toNat_natCast, e]
    rw [List.find?_cons, List.find?_cons, e, ih (fun x hx => h x (by simp [hx]))]
theorem sf_labs (b t : List UInt8) : ∀ (n : List (List UInt8)) (p : Nat), n.all okL = true → 12 ≤ p → b.drop p = labS n ++ t → Sf b (p + (labS n).length) → Sf b p := by
  intro n
  induction n with
  | nil => intro p _ _ _ h; simpa [labS] using h
  | cons l n ih =>
    intro p hn hp hd hs
    rw [List.all_cons, Bool.and_eq_true] at hn
    obtain ⟨h1, h2, _⟩ := okL_spec hn.1
    rw [labS_cons, List.cons_append] at hd
    obtain ⟨d1, d2, d3⟩ := drop_cons hd
    have hb : (b.getD p 0).toNat = l.length := by rw [d2]; simp; omega
    refine .lab p hp d1 (by omega) (by omega) ?_
    rw [hb]
    refine ih _ hn.2 (by omega) ?_ ?_
    · have : b.drop (p + (1 + l.length)) = (b.drop (p + 1)).drop l.length := by rw [List.drop_drop]; congr 1; omega
      rw [this, d3, List.append_assoc, List.drop_left]
    · rw [labS_cons, List.length_cons, List.length_append] at hs
      have e : p + (1 + l.length) + (labS n).length = p + (l.length + (labS n).length + 1) := by omega
      rw [e]; exact hs
theorem ok_take {n : List (List UInt8)} (h : n.all okL = true) (i : Nat) : (n.take i).all okL = true := by
  rw [List.all_eq_true] at h ⊢
  exact fun x hx => h x (List.mem_of_mem_take hx)
theorem sf_full (b : List UInt8) (n : List (List UInt8)) (hn : n.all okL = true) (hb : 12 ≤ b.length) : Sf (b ++ labS n ++ [0]) b.length := by
  refine sf_labs _ [0] n _ hn hb ?_ (.stop _ (by omega) (by simp) ?_)
  · rw [List.append_assoc, List.drop_left]
  · rw [List.getD_eq_getElem?_getD, List.getElem?_append_right (by simp)]
    simp
theorem sf_ptr (b : List UInt8) (n : List (List UInt8)) (a : Nat) (hn : n.all okL = true) (hb : 12 ≤ b.length) (ha : a < 16384) (hs : Sf b a) : Sf (b ++ labS n ++ ptr (a : Int)) b.length := by
  have hl : (b ++ labS n).length = b.length + (labS n).length := by simp
  have g0 : (b ++ labS n ++ ptr (a : Int)).getD (b.length + (labS n).length) 0 = UInt8.ofNat (192 + a / 256) := by
    rw [List.getD_eq_getElem?_getD, List.getElem?_append_right (by omega), hl]
    simp [ptr]
  have g1 : (b ++ labS n ++ ptr (a : Int)).getD (b.length + (labS n).length + 1) 0 = UInt8.ofNat a := by
    rw [List.getD_eq_getElem?_getD, List.getElem?_append_right (by omega), hl]
    simp [ptr, show b.length + (labS n).length + 1 - (b.length + (labS n).length) = 1 by omega]
  have t0 : (UInt8.ofNat (192 + a / 256)).toNat = 192 + a / 256 := by simp; omega
  have t1 : (UInt8.ofNat a).toNat = a % 256 := by simp
  refine sf_labs _ (ptr (a : Int)) n _ hn hb ?_ (.ptr _ (by omega) (by simp [ptr]; omega) ?_ ?_)
  · rw [List.append_assoc, List.drop_left]
  · rw [g0, t0]; omega
  · rw [g0, g1, t0, t1, show (192 + a / 256 - 192) * 256 + a % 256 = a by omega]
    exact (hs.app _).app _
/-- a name is appended in the same way -/
theorem appGo_ag {b c : List UInt8} (ha : Ag b c) (all : List Int) (hk : ∀ x ∈ all, ∃ q : Nat, x = (q : Int) ∧ Sf b q) (n : List (List UInt8)) (hn : n.all okL = true) (hb : 12 ≤ b.length) :
    ∀ (f i : Nat), ∃ u, appGo b all n f i = b ++ u ∧ appGo c all n f i = c ++ u ∧ Sf (b ++ u) b.length := by
  intro f
  induction f with
  | zero => intro i; exact ⟨labS n ++ [0], by simp [appGo], by simp [appGo], by have := sf_full b n hn hb; rwa [List.append_assoc] at this⟩
  | succ f ih =>
    intro i
    rw [appGo, appGo, ← find_ag ha _ all hk]
    cases hf : all.find? (hit b (n.drop i)) with
    | none => exact ih (i + 1)
    | some x =>
      obtain ⟨a, rfl, hs⟩ := hk x (List.mem_of_find?_eq_some hf)
      have hh := List.find?_some hf
      unfold hit at hh
      simp only [Bool.and_eq_true, decide_eq_true_eq] at hh
      have := sf_ptr b (n.take i) a (ok_take hn i) hb (by omega) hs
      rw [List.append_assoc] at this
      exact ⟨labS (n.take i) ++ ptr (a : Int), by simp, by simp, this⟩
theorem app_ag {b c : List UInt8} {known : List Int} (ha : Ag b c) (hk : Kn b known) (n : List (List UInt8)) (hn : n.all okL = true) (hb : 12 ≤ b.length) :
    ∃ u, appN b known n = b ++ u ∧ appN c known n = c ++ u ∧ Sf (b ++ u) b.length := by
  unfold appN
  rw [← places_ag ha hk]
  exact appGo_ag ha _ hk.places n hn hb _ _
/-- two states of writing that differ in the head alone -/
structure Tw (s t : Wr) : Prop where
  ag : Ag s.1 t.1
  eq : s.2 = t.2
  kn : Kn s.1 s.2
  lo : 12 ≤ s.1.length
theorem Tw.ask {s t : Wr} (h : Tw s t) (q : Qn) (hq : rightN q.nm = true) : Tw (askB s q) (askB t q) ∧ ∃ u, (askB s q).1 = s.1 ++ u ∧ (askB t q).1 = t.1 ++ u := by
  obtain ⟨u, e1, e2, hs⟩ := app_ag h.ag h.kn q.nm (rightN_spec hq).1 h.lo
  have e2' : appN t.1 t.2 q.nm = t.1 ++ u := by rw [← h.eq]; exact e2
  have f1 : (askB s q).1 = s.1 ++ (u ++ two q.ty ++ two q.cl) := by simp [askB, e1]
  have f2 : (askB t q).1 = t.1 ++ (u ++ two q.ty ++ two q.cl) := by simp [askB, e2']
  refine ⟨⟨?_, ?_, ?_, ?_⟩, _, f1, f2⟩
  · rw [f1, f2]; exact h.ag.app _
  · show s.2 ++ [(s.1.length : Int)] = t.2 ++ [(t.1.length : Int)]
    rw [h.eq, h.ag.1]
  · rw [f1]
    intro x hx
    rcases List.mem_append.1 (show x ∈ s.2 ++ [(s.1.length : Int)] from hx) with hx | hx
    · exact (h.kn.app _) x hx
    · rw [List.mem_singleton.1 hx]
      refine ⟨_, rfl, ?_⟩
      rw [List.append_assoc, ← List.append_assoc]
      exact hs.app _
  · rw [f1]; have := h.lo; simp; omega
theorem Tw.rcd {s t : Wr} (h : Tw s t) (r : Rc) (hr : rightR r = true) : Tw (recB s r) (recB t r) ∧ ∃ u, (recB s r).1 = s.1 ++ u ∧ (recB t r).1 = t.1 ++ u := by
  obtain ⟨h1, u, e1, e2⟩ := h.ask r.q (rightR_nm hr)
  have f1 : (recB s r).1 = (askB s r.q).1 ++ (twos [r.ttl / 65536, r.ttl % 65536, (dataR r).length] ++ dataR r) := by simp [recB]
  have f2 : (recB t r).1 = (askB t r.q).1 ++ (twos [r.ttl / 65536, r.ttl % 65536, (dataR r).length] ++ dataR r) := by simp [recB]
  refine ⟨⟨?_, h1.eq, ?_, ?_⟩, u ++ (twos [r.ttl / 65536, r.ttl % 65536, (dataR r).length] ++ dataR r), by rw [f1, e1, List.append_assoc], by rw [f2, e2, List.append_assoc]⟩
  · rw [f1, f2]; exact h1.ag.app _
  · rw [f1]; exact h1.kn.app _
  · rw [f1]; have := h1.lo; simp; omega
theorem Tw.qs {l : List Qn} : ∀ {s t : Wr}, Tw s t → (∀ q ∈ l, rightN q.nm = true) → Tw (qsB s l) (qsB t l) := by
  induction l with
  | nil => intro s t h _; exact h
  | cons a l ih => intro s t h hq; exact ih (h.ask a (hq a (by simp))).1 (fun q h => hq q (by simp [h]))
theorem Tw.rs {l : List Rc} : ∀ {s t : Wr}, Tw s t → (∀ r ∈ l, rightR r = true) → Tw (rsB s l) (rsB t l) := by
  induction l with
  | nil => intro s t h _; exact h
  | cons a l ih => intro s t h hq; exact ih (h.rcd a (hq a (by simp))).1 (fun q h => hq q (by simp [h]))
theorem ag_head {b c : List UInt8} (hb : b.length = 12) (hc : c.length = 12) : Ag b c := by
  refine ⟨by omega, fun p hp => ?_⟩
  rw [List.getD_eq_getElem?_getD, List.getD_eq_getElem?_getD, List.getElem?_eq_none (by omega), List.getElem?_eq_none (by omega)]
/-- a record more at the end -/
theorem lists_form (m : Ms) (r : Rc) (hm : rightM m = true) (hr : rightR r = true) :
    (formM m).length + 11 ≤ (formM { m with r2 := m.r2 ++ [r] }).length ∧ (formM { m with r2 := m.r2 ++ [r] }).take 10 = (formM m).take 10 ∧
    ((formM { m with r2 := m.r2 ++ [r] }).drop 12).take ((formM m).length - 12) = (formM m).drop 12 := by
  obtain ⟨a0, a1, a2, a3⟩ := rightM_q hm
  have hR : rightM { m with r2 := m.r2 ++ [r] } = true := by
    simp [rightM] at hm ⊢
    exact ⟨hm.1, hm.2.1, hm.2.2.1, hm.2.2.2, hr⟩
  have t0 : Tw (headB m, []) (headB { m with r2 := m.r2 ++ [r] }, []) := ⟨ag_head (headB_length _) (headB_length _), rfl, fun _ h => (by cases h), by simp [headB_length]⟩
  have t3 := (((t0.qs a0).rs a1).rs a2).rs a3
  obtain ⟨_, u, e1, e2⟩ := t3.rcd r hr
  have eO : formM { m with r2 := m.r2 ++ [r] } = (recB (rsB (rsB (rsB (qsB (headB { m with r2 := m.r2 ++ [r] }, []) m.qs) m.r0) m.r1) m.r2) r).1 := by
    show (rsB (rsB (rsB (qsB (headB { m with r2 := m.r2 ++ [r] }, []) m.qs) m.r0) m.r1) (m.r2 ++ [r])).1 = _
    unfold rsB
    rw [List.foldl_append]; rfl
  have eM : formM m = (rsB (rsB (rsB (qsB (headB m, []) m.qs) m.r0) m.r1) m.r2).1 := rfl
  have hlen := t3.ag.1
  rw [← eM] at hlen
  have hu : 11 ≤ u.length := by
    have h1 := (app_reads (rsB (rsB (rsB (qsB (headB m, []) m.qs) m.r0) m.r1) m.r2).1 (rsB (rsB (rsB (qsB (headB m, []) m.qs) m.r0) m.r1) m.r2).2 r.q.nm (rightR_nm hr)).2.1
    have h2 := congrArg List.length e1
    simp only [recB, askB, List.length_append, twos_length, two_length] at h2
    simp at h2
    omega
  rw [eO, e2]
  obtain ⟨T1, hT1⟩ := head_pre hm
  obtain ⟨T2, hT2⟩ := head_pre hR
  have hF : (rsB (rsB (rsB (qsB (headB { m with r2 := m.r2 ++ [r] }, []) m.qs) m.r0) m.r1) m.r2).1.length = (formM m).length := hlen.symm
  have hge := (head_pre hm).len
  rw [headB_length] at hge
  refine ⟨by rw [List.length_append, hF]; omega, ?_, ?_⟩
  · rw [← e2, ← eO, hT2, hT1, List.take_append_of_le_length (by rw [headB_length]; omega), List.take_append_of_le_length (by rw [headB_length]; omega)]
    simp [headB, twos, two]
  · rw [List.drop_append_of_le_length (by omega), List.take_append_of_le_length (by rw [List.length_drop]; omega)]
    have h := t3.ag.piece 12 ((formM m).length - 12) (Nat.le_refl _)
    rw [← eM] at h
    rw [← h, List.take_of_length_le (by rw [List.length_drop]; exact Nat.le_refl _)]
theorem okS_map {w : World} {B : Nat} {l : List SmR} (h : ∀ x ∈ l, SRd w B x) : ∀ s ∈ l.map SmR.s, okS s := by
  intro s hs
  obtain ⟨x, hx, rfl⟩ := List.mem_map.1 hs
  exact (h x hx).2.2.2
theorem run_sl_hm {P : Program} (W : World) (t e : TypeId) (s : Nat) (ht : P.underlying t = some (.slice e)) (hz : ∀ w, (Go.sizeOf e).run P w = .ok s w) (A : Option Addr) (n cap : Nat) (h : Nat) (h2 : h ≤ cap) : (Instr.slice t (.slice A n cap) none (some (.int .i64 (h : Int))) (some (.int .i64 (h : Int)))).run P W = .ok (.slice A h h) W := by
  have ht' : P.underlying t = some (.slice (P.elem t)) := by simp [Program.elem, ht]
  have he : P.elem t = e := by simp [Program.elem, ht]
  rw [run_slice_hm W t _ _ _ ht' .i64 .i64 _ _ (by omega) (by omega) (by omega), he, hz]
  have := cutA_zero A h
  unfold cutA at this
  simp [Result.andThen, sliced, this]
theorem made_mrd {w : World} {base : Nat} {x : MR} {id fl : Nat} {l : List Sm} (h : MOw w base x) (hx : x.m = madeM id fl l) (hi : id < 65536) (hf : fl < 65536) (hs : ∀ s ∈ l, okS s) : MRd w w.heap.size x := by
  obtain ⟨h1, h2, h3, _⟩ := madeM_all id fl l hi hf hs
  exact h.rd (by rw [hx]; exact h1) (by rw [hx]; exact h2) (by rw [hx]; omega)
theorem num_pos (m : Ms) (hr : rightM m = true) : 12 ≤ (formM m).length := by
  have := (head_pre hr).len
  rw [headB_length] at this
  exact this
theorem readE_atL (A : Option Addr) (c L : Nat) (b : List UInt8) (hL : b.length = L) (m : Ms) (er : Nat) (hm : readM b = (m, er)) (w : World) (h : Rd w w.heap.size A L (bc b)) (hc : L ≤ c) (hbl : L ≤ 140737488355328) :
    Calls Try.prog 14 #[.slice A L c] w fun e w' => ∃ x : MR, x.m = m ∧ e = .returned (.tuple #[.agg x.cells.toArray, .int .i64 (er : Int)]) ∧ MRd w' w'.heap.size x ∧ Below w.heap.size w w' := by
  subst hL
  exact readE_at A c b m er hm w h hc hbl
theorem MOw.only {w w' : World} {base g : Nat} {x : MR} (h : MOw w base x) (hO : Only w w' g) (hg : g < base) : MOw w' base x :=
  ⟨h.q.only hO hg, h.a.only hO hg, h.b.only hO hg, h.c.only hO hg, fun o ho => (h.n o ho).only hO hg, fun o ho => (h.r0 o ho).only hO hg, fun o ho => (h.r1 o ho).only hO hg, fun o ho => (h.r2 o ho).only hO hg⟩
theorem MOw.far {w w' : World} {base : Nat} {x : MR} (h : MOw w base x) (hb : Below w.heap.size w w') : MOw w' base x :=
  ⟨h.q.far hb, h.a.far hb, h.b.far hb, h.c.far hb, fun o ho => (h.n o ho).far hb, fun o ho => (h.r0 o ho).far hb, fun o ho => (h.r1 o ho).far hb, fun o ho => (h.r2 o ho).far hb⟩
theorem dmade_atL (id fl : Nat) (A : Option Addr) (c L : Nat) (l : List SmR) (hL : l.length = L) (w : World) (h : Rd w w.heap.size A (L * 9) (smcs l)) (hc : L ≤ c) (hx : ∀ x ∈ l, SRd w w.heap.size x) :
    Calls Try.prog 21 #[.int .u16 (id : Int), .int .u16 (fl : Int), .slice A L c] w fun e w' => ∃ x : MR, x.m = madeM id fl (l.map SmR.s) ∧ e = .returned (.agg x.cells.toArray) ∧ MOw w' w.heap.size x ∧ Below w.heap.size w w' := by
  subst hL
  exact dmade_at id fl A c l w h hc hx
theorem beq_anyL (A1 A2 : Option Addr) (c1 c2 L1 L2 : Nat) (l m : List UInt8) (hl : l.length = L1) (hm : m.length = L2) (w : World) (B : Nat) (h1 : Rd w B A1 L1 (bc l)) (h2 : Rd w B A2 L2 (bc m)) :
    Calls Try.prog 25 #[.slice A1 L1 c1, .slice A2 L2 c2] w fun e w' => e = .returned (.bool (decide (l = m))) ∧ w' = w := by
  subst hl hm
  exact beq_any A1 A2 c1 c2 l m w B h1 h2
theorem rd_cutB {w : World} {B n : Nat} {A : Option Addr} {l : List UInt8} (h : Rd w B A n (bc l)) {k m cap : Nat} (hk : k ≤ m) (hm : m ≤ n) (hc : n ≤ cap) : Rd w B (cutA A cap k) (m - k) (bc ((l.drop k).take (m - k))) := by
  have := h.cut hk hm hc
  unfold bc at this ⊢
  rw [← List.map_drop, ← List.map_take] at this
  exact this
theorem rcs_take (l : List RR) : ∀ k, (rcs l).take (k * 9) = rcs (l.take k) := by
  induction l with
  | nil => intro k; simp [rcs]
  | cons a l ih =>
    intro k
    cases k with
    | zero => simp [rcs]
    | succ k =>
      have : rcs (a :: l) = a.cells ++ rcs l := by simp [rcs]
      rw [this, List.take_append, RR.cells_length, List.take_of_length_le (by rw [RR.cells_length]; omega), show (k + 1) * 9 - 9 = k * 9 by omega, ih k]
      simp [rcs]
theorem RsRd.take {w : World} {B c n : Nat} {A : Option Addr} {l : List RR} (h : RsRd w B A c n l) {k : Nat} (hk : k ≤ n) : RsRd w B A c (l.take k).length (l.take k) := by
  have hl : (l.take k).length = k := by rw [List.length_take, h.2.1]; omega
  rw [hl]
  refine ⟨?_, hl, Nat.le_trans hk h.2.2.1, Nat.le_trans hk h.2.2.2.1, fun x hx => h.2.2.2.2 x (List.mem_of_mem_take hx)⟩
  have := h.1.pre (k := k * 9) (by omega)
  rw [rcs_take] at this
  exact this
theorem smcs_snoc (l : List SmR) (x : SmR) : smcs (l ++ [x]) = smcs l ++ x.cells := by simp [smcs]
theorem smcells_one (x : SmR) : ∀ u ∈ x.cells, u.oneCell' = true := by
  intro u hu
  simp [SmR.cells] at hu
  rcases hu with rfl | rfl | rfl | rfl | rfl | rfl | rfl | rfl | rfl <;> rfl
theorem smcs_take (l : List SmR) : ∀ k, (smcs l).take (k * 9) = smcs (l.take k) := by
  induction l with
  | nil => intro k; simp [smcs]
  | cons a l ih =>
    intro k
    cases k with
    | zero => simp [smcs]
    | succ k =>
      have : smcs (a :: l) = a.cells ++ smcs l := by simp [smcs]
      rw [this, List.take_append, SmR.cells_length, List.take_of_length_le (by rw [SmR.cells_length]; omega), show (k + 1) * 9 - 9 = k * 9 by omega, ih k]
      simp [smcs]
theorem Try.infoSm : (Try.prog.info? 57).map (fun i => (i.zero, i.size, i.bytes)) = some (some (.agg #[.slice none 0 0, .slice none 0 0, .int .u8 0, .int .u8 0, .int .u16 0, .int .u16 0, .int .u16 0, .int .u32 0, .slice none 0 0]), 9, 88) := by kernel_rfl
theorem szRc (w : World) : (Go.sizeOf 49).run Try.prog w = .ok 9 w := by kernel_rfl
set_option maxRecDepth 100000 in
theorem open_smv {H : Type} {enc : TypeId × Value → H} {W : World} {base : Nat} {v : Value} {d : DataW H} {ps : List MemPlace} (hval : Value.okWide Try.prog W .any base 57 v) (hd : DataW.Trod enc Try.prog W 0 (fun _ => true) true 57 v d ps) (hre : ∀ n ∈ d.weights Try.prog 57, n ≤ reachBytes) :
    ∃ x : SmR, v = .agg x.cells.toArray ∧ SRd W W.heap.size x := by
  obtain ⟨cs, rfl, _⟩ := Go.WideShapes.okWide_struct Try.underlying57 hval
  obtain ⟨n, hn⟩ := hd
  obtain ⟨x, h1, h2⟩ := open_sm hn hre
  exact ⟨x, by rw [← h1]; simp [Value.cells], h2⟩
end Go.Proofs.Ytmhehgalfmdldaa
