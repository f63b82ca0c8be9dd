/-
  dns, plain: what is written is read as it was; what is read is right; reading is local.
-/
import Derived.Test.YtlipmlbijddopaaDnsP
import Derived.Test.YtlipmlbijddopaaAppP
set_option linter.unusedVariables false
set_option linter.unusedSimpArgs false
namespace Go.Proofs.Ytlipmlbijddopaa
open Go.RowKit
/-- numbers that fit -/
def okQ (q : Qn) : Prop := q.ty < 65536 ∧ q.cl < 65536
def okR (r : Rc) : Prop := okQ r.q ∧ r.ttl < 4294967296 ∧ r.pr < 65536 ∧ r.we < 65536 ∧ r.po < 65536
structure okM (m : Ms) : Prop where
  id : m.id < 65536
  fl : m.fl < 65536
  qs : ∀ q ∈ m.qs, okQ q
  r0 : ∀ r ∈ m.r0, okR r
  r1 : ∀ r ∈ m.r1, okR r
  r2 : ∀ r ∈ m.r2, okR r
/-- B begins with b -/
def Pre (b B : List UInt8) : Prop := ∃ t, B = b ++ t
theorem Pre.refl (b : List UInt8) : Pre b b := ⟨[], by simp⟩
theorem Pre.trans {a b c : List UInt8} (h : Pre a b) (k : Pre b c) : Pre a c := by
  obtain ⟨t, rfl⟩ := h
  obtain ⟨u, rfl⟩ := k
  exact ⟨t ++ u, by simp⟩
theorem Pre.len {a b : List UInt8} (h : Pre a b) : a.length ≤ b.length := by
  obtain ⟨t, rfl⟩ := h; simp
theorem Pre.take {a b : List UInt8} (h : Pre a b) {k : Nat} (hk : k ≤ a.length) : b.take k = a.take k := by
  obtain ⟨t, rfl⟩ := h
  rw [List.take_append_of_le_length hk]
theorem Pre.app (a t : List UInt8) : Pre a (a ++ t) := ⟨t, rfl⟩
theorem Pre.of_take (b : List UInt8) (k : Nat) : Pre (b.take k) b := ⟨b.drop k, (List.take_append_drop k b).symm⟩
theorem piece_at {B p d : List UInt8} (h : Pre (p ++ d) B) : (B.drop p.length).take d.length = d := by
  obtain ⟨t, rfl⟩ := h
  rw [List.append_assoc, List.drop_left' rfl, List.take_left' rfl]
theorem take_of {B p d : List UInt8} (h : Pre (p ++ d) B) : rTake B d.length ⟨p.length, 0⟩ = (d, ⟨p.length + d.length, 0⟩) := by
  have := h.len
  rw [List.length_append] at this
  simp [rTake, this, piece_at h]
theorem num2_two (n : Nat) (h : n < 65536) : num2 (two n) = n := by
  simp [num2, two]
  omega
theorem num_of {B p : List UInt8} {n : Nat} (h : Pre (p ++ two n) B) (hn : n < 65536) : rNum B ⟨p.length, 0⟩ = (n, ⟨p.length + 2, 0⟩) := by
  have := take_of h
  rw [two_length] at this
  simp [rNum, this, num2_two n hn]
theorem pre_of_take {b B : List UInt8} (h : B.take b.length = b) : Pre b B := ⟨B.drop b.length, by
  have := List.take_append_drop b.length B
  rw [h] at this
  exact this.symm⟩
theorem app_pre (b : List UInt8) (known : List Int) (n : List (List UInt8)) (hr : rightN n = true) : Pre b (appN b known n) := pre_of_take (app_reads b known n hr).2.2.2
/-- a name is read in whatever its bytes begin -/
theorem name_of {B b : List UInt8} {known : List Int} {n : List (List UInt8)} (hr : rightN n = true) (h : Pre (appN b known n) B) : rName B ⟨b.length, 0⟩ = (n, ⟨(appN b known n).length, 0⟩) := by
  obtain ⟨h1, h2, h3, h4⟩ := app_reads b known n hr
  have h5 := readN_behind (appN b known n) b.length (by omega) (by rw [h1]) B (by rw [h1]; exact h.take (Nat.le_refl _)) (by rw [h1]; exact h.len)
  rw [h1] at h5
  simp [rName, h5]
theorem q_of {B : List UInt8} {s : Wr} {q : Qn} (hr : rightN q.nm = true) (hq : okQ q) (h : Pre (askB s q).1 B) : rQ B ⟨s.1.length, 0⟩ = (q, ⟨(askB s q).1.length, 0⟩) := by
  have e : (askB s q).1 = appN s.1 s.2 q.nm ++ two q.ty ++ two q.cl := rfl
  rw [e] at h
  have p1 : Pre (appN s.1 s.2 q.nm ++ two q.ty) B := (Pre.app _ _).trans h
  have p0 : Pre (appN s.1 s.2 q.nm) B := (Pre.app _ _).trans p1
  have h0 := name_of hr p0
  have h1 := num_of p1 hq.1
  have h2 := num_of h hq.2
  rw [List.length_append, two_length] at h2
  simp only [rQ, h0, h1, h2, e, List.length_append, two_length]
theorem ask_pre (s : Wr) (q : Qn) (hr : rightN q.nm = true) : Pre s.1 (askB s q).1 := (app_pre s.1 s.2 q.nm hr).trans ((Pre.app _ _).trans (Pre.app _ _))
theorem rightR_nm {r : Rc} (h : rightR r = true) : rightN r.q.nm = true := by
  unfold rightR at h
  split at h
  · assumption
  · cases h
theorem rec_pre (s : Wr) (r : Rc) (hr : rightR r = true) : Pre s.1 (recB s r).1 := (ask_pre s r.q (rightR_nm hr)).trans ((Pre.app _ _).trans (Pre.app _ _))
theorem take_end {B p : List UInt8} (h : Pre p B) : B.take p.length = p := by
  rw [h.take (Nat.le_refl _), List.take_length]
theorem dataR_len' {r : Rc} (h : rightR r = true) : (dataR r).length ≤ 4096 := by
  unfold rightR at h
  unfold dataR
  split at h
  · split
    · rw [if_pos (by assumption)] at h
      split at h
      · have := size_right h
        simp [two, formN_length]; omega
      · cases h
    · rw [if_neg (by assumption)] at h
      simp at h
      exact h.1
  · cases h
theorem r_of {B : List UInt8} {s : Wr} {r : Rc} (hr : rightR r = true) (hk : okR r) (h : Pre (recB s r).1 B) : rR B ⟨s.1.length, 0⟩ = (r, ⟨(recB s r).1.length, 0⟩) := by
  obtain ⟨hq, ht, hp, hw, ho⟩ := hk
  have hdl := dataR_len' hr
  obtain ⟨a, ha⟩ : ∃ a, a = (askB s r.q).1 := ⟨_, rfl⟩
  obtain ⟨d, hd⟩ : ∃ d, d = dataR r := ⟨_, rfl⟩
  have e : (recB s r).1 = a ++ two (r.ttl / 65536) ++ two (r.ttl % 65536) ++ two d.length ++ d := by simp [recB, twos, ha, hd]
  rw [e] at h ⊢
  rw [← hd] at hdl
  have p3 : Pre (a ++ two (r.ttl / 65536) ++ two (r.ttl % 65536) ++ two d.length) B := (Pre.app _ _).trans h
  have p2 : Pre (a ++ two (r.ttl / 65536) ++ two (r.ttl % 65536)) B := (Pre.app _ _).trans p3
  have p1 : Pre (a ++ two (r.ttl / 65536)) B := (Pre.app _ _).trans p2
  have p0 : Pre a B := (Pre.app _ _).trans p1
  have h0 := q_of (rightR_nm hr) hq (by rw [← ha]; exact p0)
  rw [← ha] at h0
  have h1 := num_of p1 (by omega)
  have h2 := num_of p2 (by omega)
  have h3 := num_of p3 (by omega)
  have h4 := take_of h
  simp only [List.length_append, two_length] at h2 h3 h4
  have hte := take_end h
  have hlen : (a ++ two (r.ttl / 65536) ++ two (r.ttl % 65536) ++ two d.length ++ d).length = a.length + 2 + 2 + 2 + d.length := by simp only [List.length_append, two_length]
  rw [hlen] at hte ⊢
  have httl : 65536 * (r.ttl / 65536) + r.ttl % 65536 = r.ttl := by omega
  simp only [rR, h0, h1, h2, h3, h4, httl]
  unfold rightR at hr
  rw [if_pos (by
    by_cases hn : rightN r.q.nm = true
    · exact hn
    · rw [if_neg hn] at hr; cases hr)] at hr
  by_cases h33 : r.q.ty = 33
  · rw [if_pos h33] at hr
    have hd0 : r.d = [] := by
      by_cases hz : r.d.length = 0
      · exact List.eq_nil_of_length_eq_zero hz
      · rw [if_neg hz] at hr; cases hr
    have htg : rightN r.tg = true := by
      rw [hd0] at hr; simpa using hr
    have hD : d = two r.pr ++ two r.we ++ two r.po ++ formN r.tg := by rw [hd, dataR, if_pos h33]
    have hfl : (formN r.tg).length = sizeN r.tg := formN_length _
    have hs0 := labS_length r.tg
    have hdlen : d.length = 6 + sizeN r.tg := by rw [hD]; simp only [List.length_append, two_length, hfl]
    obtain ⟨c, hc⟩ : ∃ c, c = a ++ two (r.ttl / 65536) ++ two (r.ttl % 65536) ++ two d.length := ⟨_, rfl⟩
    have hcl : c.length = a.length + 2 + 2 + 2 := by rw [hc]; simp only [List.length_append, two_length]
    have hst : a.length + 2 + 2 + 2 + d.length - d.length = c.length := by omega
    rw [← hc] at hte
    have hd1 : c ++ d = c ++ two r.pr ++ two r.we ++ two r.po ++ formN r.tg := by rw [hD]; simp
    have k0 : Pre (c ++ two r.pr) (c ++ d) := by rw [hd1]; exact (Pre.app _ _).trans ((Pre.app _ _).trans (Pre.app _ _))
    have k1 : Pre (c ++ two r.pr ++ two r.we) (c ++ d) := by rw [hd1]; exact (Pre.app _ _).trans (Pre.app _ _)
    have k2 : Pre (c ++ two r.pr ++ two r.we ++ two r.po) (c ++ d) := by rw [hd1]; exact (Pre.app _ _)
    have n0 := num_of k0 hp
    have n1 := num_of k1 hw
    have n2 := num_of k2 ho
    have n3 : rName (c ++ d) ⟨(c ++ two r.pr ++ two r.we ++ two r.po).length, 0⟩ = (r.tg, ⟨(c ++ d).length, 0⟩) := by
      have := read_full (c ++ two r.pr ++ two r.we ++ two r.po) [] r.tg htg
      rw [show c ++ two r.pr ++ two r.we ++ two r.po ++ (labS r.tg ++ 0 :: []) = c ++ d by rw [hd1]; rfl] at this
      simp only [rName, this, if_true]
      rw [hd1]
      simp only [List.length_append, two_length, hfl]
    simp only [List.length_append, two_length] at n1 n2 n3
    rw [if_neg (by simp), if_neg (by omega), if_neg (by omega), hte, hst]
    simp only [n0, n1, n2, n3]
    rw [if_neg (by simp; omega)]
    obtain ⟨q, ttl, dd, pr, we, po, tg⟩ := r
    simp only at hd0
    rw [hd0]
  · rw [if_neg h33] at hr
    simp only [decide_eq_true_eq] at hr
    obtain ⟨_, e1, e2, e3, e4⟩ := hr
    have hD : d = r.d := by rw [hd, dataR, if_neg h33]
    rw [if_neg (by simp), if_pos h33, hD]
    obtain ⟨q, ttl, dd, pr, we, po, tg⟩ := r
    simp only at e1 e2 e3 e4
    rw [e1, e2, e3, List.eq_nil_of_length_eq_zero e4]
theorem qs_pre (s : Wr) (l : List Qn) (hl : ∀ q ∈ l, rightN q.nm = true) : Pre s.1 (qsB s l).1 := by
  induction l generalizing s with
  | nil => exact Pre.refl _
  | cons a l ih => exact (ask_pre s a (hl a (by simp))).trans (ih (askB s a) (fun q hq => hl q (by simp [hq])))
theorem rs_pre (s : Wr) (l : List Rc) (hl : ∀ r ∈ l, rightR r = true) : Pre s.1 (rsB s l).1 := by
  induction l generalizing s with
  | nil => exact Pre.refl _
  | cons a l ih => exact (rec_pre s a (hl a (by simp))).trans (ih (recB s a) (fun q hq => hl q (by simp [hq])))
theorem qs_of {B : List UInt8} {s : Wr} {l : List Qn} (hr : ∀ q ∈ l, rightN q.nm = true) (hk : ∀ q ∈ l, okQ q) (h : Pre (qsB s l).1 B) : rQs B ⟨s.1.length, 0⟩ l.length = (l, ⟨(qsB s l).1.length, 0⟩) := by
  have key : ∀ k, k ≤ l.length → rQs B ⟨s.1.length, 0⟩ k = (l.take k, ⟨(qsB s (l.take k)).1.length, 0⟩) := by
    intro k
    induction k with
    | zero => intro _; rfl
    | succ k ih =>
      intro hkl
      have hm := List.getElem_mem (l := l) (n := k) (by omega)
      have hp : Pre (askB (qsB s (l.take k)) l[k]).1 B := by
        rw [← qsB_take s l k (by omega)]
        refine Pre.trans ?_ h
        have : qsB s l = qsB (qsB s (l.take (k + 1))) (l.drop (k + 1)) := by unfold qsB; rw [← List.foldl_append, List.take_append_drop]
        rw [this]
        exact qs_pre _ _ (fun q hq => hr q (List.mem_of_mem_drop hq))
      rw [rQs, ih (by omega), q_of (hr _ hm) (hk _ hm) hp, qsB_take s l k (by omega), List.take_succ_eq_append_getElem (by omega)]
  have := key l.length (Nat.le_refl _)
  rwa [List.take_length] at this
theorem rs_of {B : List UInt8} {s : Wr} {l : List Rc} (hr : ∀ q ∈ l, rightR q = true) (hk : ∀ q ∈ l, okR q) (h : Pre (rsB s l).1 B) : rRs B ⟨s.1.length, 0⟩ l.length = (l, ⟨(rsB s l).1.length, 0⟩) := by
  have key : ∀ k, k ≤ l.length → rRs B ⟨s.1.length, 0⟩ k = (l.take k, ⟨(rsB s (l.take k)).1.length, 0⟩) := by
    intro k
    induction k with
    | zero => intro _; rfl
    | succ k ih =>
      intro hkl
      have hm := List.getElem_mem (l := l) (n := k) (by omega)
      have hp : Pre (recB (rsB s (l.take k)) l[k]).1 B := by
        rw [← rsB_take s l k (by omega)]
        refine Pre.trans ?_ h
        have : rsB s l = rsB (rsB s (l.take (k + 1))) (l.drop (k + 1)) := by unfold rsB; rw [← List.foldl_append, List.take_append_drop]
        rw [this]
        exact rs_pre _ _ (fun q hq => hr q (List.mem_of_mem_drop hq))
      rw [rRs, ih (by omega), r_of (hr _ hm) (hk _ hm) hp, rsB_take s l k (by omega), List.take_succ_eq_append_getElem (by omega)]
  have := key l.length (Nat.le_refl _)
  rwa [List.take_length] at this
theorem rightM_q {m : Ms} (h : rightM m = true) : (∀ q ∈ m.qs, rightN q.nm = true) ∧ (∀ r ∈ m.r0, rightR r = true) ∧ (∀ r ∈ m.r1, rightR r = true) ∧ (∀ r ∈ m.r2, rightR r = true) := by
  simpa [rightM, List.all_eq_true] using h
theorem headB_length (m : Ms) : (headB m).length = 12 := by simp [headB, twos_length]
theorem hd_of {B : List UInt8} {l : List Nat} (h : Pre (twos l) B) (hl : ∀ n ∈ l, n < 65536) (i : Nat) (hi : i < l.length) : hd B i = l[i] := by
  have h1 : Pre (twos (l.take i) ++ two l[i]) B := by
    refine Pre.trans ⟨twos (l.drop (i + 1)), ?_⟩ h
    rw [← twos_snoc, ← List.take_succ_eq_append_getElem hi]
    unfold twos
    rw [← List.flatMap_append, List.take_append_drop]
  have h2 := piece_at h1
  rw [twos_length, List.length_take, Nat.min_eq_left (by omega), two_length] at h2
  unfold hd
  have : ∀ x : List UInt8, num2 x = num2 (x.take 2) := by
    intro x
    match x with
    | [] => rfl
    | [_] => rfl
    | _ :: _ :: _ => rfl
  rw [this, h2, num2_two _ (hl _ (List.getElem_mem hi))]
/-- the states in which a message is read from whatever its form begins -/
theorem body_of {B : List UInt8} {m : Ms} (hr : rightM m = true) (hk : okM m) (h : Pre (formM m) B) :
    rRs B (rRs B (rRs B (rQs B ⟨12, 0⟩ m.qs.length).2 m.r0.length).2 m.r1.length).2 m.r2.length = (m.r2, ⟨(formM m).length, 0⟩) ∧
    (rRs B (rRs B (rQs B ⟨12, 0⟩ m.qs.length).2 m.r0.length).2 m.r1.length).1 = m.r1 ∧ (rRs B (rQs B ⟨12, 0⟩ m.qs.length).2 m.r0.length).1 = m.r0 ∧ (rQs B ⟨12, 0⟩ m.qs.length).1 = m.qs := by
  obtain ⟨h0, h1, h2, h3⟩ := rightM_q hr
  have p3 : Pre (rsB (rsB (rsB (qsB (headB m, []) m.qs) m.r0) m.r1) m.r2).1 B := h
  have p2 := (rs_pre _ _ h3).trans p3
  have p1 := (rs_pre _ _ h2).trans p2
  have p0 := (rs_pre _ _ h1).trans p1
  have e0 := qs_of h0 hk.qs p0
  have e1 := rs_of h1 hk.r0 p1
  have e2 := rs_of h2 hk.r1 p2
  have e3 := rs_of h3 hk.r2 p3
  rw [show (headB m, ([] : List Int)).1.length = 12 from headB_length m] at e0
  rw [e0, e1, e2, e3]
  exact ⟨rfl, rfl, rfl, rfl⟩
theorem head_pre {m : Ms} (hr : rightM m = true) : Pre (headB m) (formM m) := by
  obtain ⟨h0, h1, h2, h3⟩ := rightM_q hr
  exact (qs_pre (headB m, []) _ h0).trans ((rs_pre _ _ h1).trans ((rs_pre _ _ h2).trans (rs_pre _ _ h3)))
theorem heads_of {B : List UInt8} {m : Ms} (hr : rightM m = true) (hk : okM m) (hn : m.num ≤ 256) (h : Pre (formM m) B) :
    hd B 0 = m.id ∧ hd B 1 = m.fl ∧ hd B 2 = m.qs.length ∧ hd B 3 = m.r0.length ∧ hd B 4 = m.r1.length ∧ hd B 5 = m.r2.length := by
  have hp : Pre (twos [m.id, m.fl, m.qs.length, m.r0.length, m.r1.length, m.r2.length]) B := (head_pre hr).trans h
  have hid := hk.id
  have hfl := hk.fl
  have hall : ∀ n ∈ [m.id, m.fl, m.qs.length, m.r0.length, m.r1.length, m.r2.length], n < 65536 := by
    unfold Ms.num at hn
    intro n hn
    simp at hn
    rcases hn with rfl | rfl | rfl | rfl | rfl | rfl <;> omega
  exact ⟨hd_of hp hall 0 (by simp), hd_of hp hall 1 (by simp), hd_of hp hall 2 (by simp), hd_of hp hall 3 (by simp), hd_of hp hall 4 (by simp), hd_of hp hall 5 (by simp)⟩
theorem read_of {B : List UInt8} {m : Ms} (hr : rightM m = true) (hk : okM m) (hn : m.num ≤ 256) (h : Pre (formM m) B) (hB : B.length ≤ 4096) :
    readM B = if (formM m).length < B.length then (zM, 173) else (m, 0) := by
  obtain ⟨c0, c1, c2, c3, c4, c5⟩ := heads_of hr hk hn h
  obtain ⟨b0, b1, b2, b3⟩ := body_of hr hk h
  have hh := (head_pre hr).len
  rw [headB_length] at hh
  have hl := h.len
  unfold Ms.num at hn
  unfold readM
  rw [if_neg (by omega), if_neg (by omega), c0, c1, c2, c3, c4, c5, if_neg (by omega)]
  simp only [b0, b1, b2, b3]
  by_cases hlt : (formM m).length < B.length
  · simp [hlt]
  · simp [hlt]
theorem read_form {m : Ms} (hr : rightM m = true) (hk : okM m) (hn : m.num ≤ 256) (hB : (formM m).length ≤ 4096) : readM (formM m) = (m, 0) := by
  rw [read_of hr hk hn (Pre.refl _) hB, if_neg (by omega)]
end Go.Proofs.Ytlipmlbijddopaa
