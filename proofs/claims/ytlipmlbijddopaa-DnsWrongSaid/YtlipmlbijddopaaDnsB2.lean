/-
  dns, plain: reading is local; what is read is right; a form that is cut is not read.
-/
import Derived.Test.YtlipmlbijddopaaDnsB
set_option linter.unusedVariables false
set_option linter.unusedSimpArgs false
namespace Go.Proofs.Ytlipmlbijddopaa
open Go.RowKit
/-- a reader looks no further than it reads -/
def Lc {α : Type} (f : List UInt8 → St → α × St) : Prop := ∀ b B s, Pre b B → (s.e = 0 → s.at_ ≤ b.length) → (f b s).2.e = 0 → s.e = 0 ∧ f B s = f b s ∧ (f b s).2.at_ ≤ b.length
theorem lc_name : Lc rName := by
  intro b B s hp hs h
  by_cases h0 : s.e = 0
  · have hat := hs h0
    unfold rName at h ⊢
    rw [if_pos h0] at h ⊢
    simp only at h
    have hn := readN_next b s.at_ hat h
    have := readN_behind b s.at_ hat h B (by rw [hp.take hn.2]) (Nat.le_trans hn.2 hp.len)
    rw [if_pos h0, this]
    exact ⟨h0, rfl, hn.2⟩
  · unfold rName at h
    rw [if_neg h0] at h
    exact absurd h h0
theorem lc_take (n : Nat) : Lc (fun b s => rTake b n s) := by
  intro b B s hp hs h
  simp only at h ⊢
  by_cases h0 : s.e = 0
  · unfold rTake at h ⊢
    rw [if_pos h0] at h ⊢
    by_cases hf : s.at_ + n ≤ b.length
    · have hl := hp.len
      rw [if_pos hf, if_pos h0, if_pos (by omega)]
      refine ⟨h0, ?_, hf⟩
      obtain ⟨t, rfl⟩ := hp
      rw [List.drop_append_of_le_length (by omega), List.take_append_of_le_length (by rw [List.length_drop]; omega)]
    · rw [if_neg hf] at h
      cases h
  · unfold rTake at h
    rw [if_neg h0] at h
    exact absurd h h0
theorem lc_num : Lc rNum := by
  intro b B s hp hs h
  obtain ⟨h1, h2, h3⟩ := lc_take 2 b B s hp hs h
  simp only at h2
  exact ⟨h1, by simp only [rNum, h2], h3⟩
theorem lc_q : Lc rQ := by
  intro b B s hp hs h
  have h2 : (rNum b (rNum b (rName b s).2).2).2.e = 0 := h
  obtain ⟨g2, e2, l2⟩ : (rNum b (rName b s).2).2.e = 0 ∧ rNum B (rNum b (rName b s).2).2 = rNum b (rNum b (rName b s).2).2 ∧ (rNum b (rNum b (rName b s).2).2).2.at_ ≤ b.length := by
    by_cases h1 : (rNum b (rName b s).2).2.e = 0
    · have k1 : (rName b s).2.e = 0 := by
        by_cases hz : (rName b s).2.e = 0
        · exact hz
        · unfold rNum rTake at h1
          simp only [if_neg hz] at h1
          exact absurd h1 hz
      have k0 := lc_name b b s (Pre.refl b) hs k1
      have k2 := lc_num b b _ (Pre.refl b) (fun _ => k0.2.2) h1
      exact lc_num b B _ hp (fun _ => k2.2.2) h2
    · unfold rNum rTake at h2
      simp only at h2
      unfold rNum rTake at h1
      simp only at h1
      rw [if_neg h1] at h2
      exact absurd h2 h1
  have k1 : (rName b s).2.e = 0 := by
    by_cases hz : (rName b s).2.e = 0
    · exact hz
    · unfold rNum rTake at g2
      simp only [if_neg hz] at g2
      exact absurd g2 hz
  obtain ⟨g0, e0, l0⟩ := lc_name b B s hp hs k1
  obtain ⟨g1, e1, l1⟩ := lc_num b B _ hp (fun _ => l0) g2
  refine ⟨g0, ?_, l2⟩
  simp only [rQ, e0, e1, e2]
theorem take_err {b : List UInt8} {n : Nat} {s : St} (h : (rTake b n s).2.e = 0) : s.e = 0 ∧ s.at_ + n ≤ b.length ∧ (rTake b n s).2.at_ = s.at_ + n ∧ (rTake b n s).1 = (b.drop s.at_).take n := by
  by_cases h0 : s.e = 0
  · unfold rTake at h ⊢
    rw [if_pos h0] at h ⊢
    by_cases hf : s.at_ + n ≤ b.length
    · rw [if_pos hf]; exact ⟨h0, hf, rfl, rfl⟩
    · rw [if_neg hf] at h; cases h
  · unfold rTake at h
    rw [if_neg h0] at h
    exact absurd h h0
theorem num_err {b : List UInt8} {s : St} (h : (rNum b s).2.e = 0) : s.e = 0 ∧ s.at_ + 2 ≤ b.length ∧ (rNum b s).2.at_ = s.at_ + 2 := by
  have := take_err (b := b) (n := 2) (s := s) h
  exact ⟨this.1, this.2.1, this.2.2.1⟩
theorem name_err {b : List UInt8} {s : St} (h : (rName b s).2.e = 0) : s.e = 0 := by
  by_cases h0 : s.e = 0
  · exact h0
  · unfold rName at h
    rw [if_neg h0] at h
    exact absurd h h0
theorem q_err {b : List UInt8} {s : St} (h : (rQ b s).2.e = 0) : s.e = 0 := name_err (num_err (num_err h).1).1
/-- where a record's data end -/
def rD (b : List UInt8) (s : St) : List UInt8 × St :=
  let q := rQ b s
  let h := rNum b q.2
  let l := rNum b h.2
  let z := rNum b l.2
  rTake b z.1 z.2
/-- what is read, behind the data's bytes -/
def rKo (o : List UInt8) (n : Nat) : Nat × Nat × Nat × (List (List UInt8) × St) :=
  let p := rNum o ⟨n, 0⟩
  let w := rNum o p.2
  let k := rNum o w.2
  (p.1, w.1, k.1, rName o k.2)
def rKk (b : List UInt8) (q : Qn) (hi lo : Nat) (d : List UInt8 × St) : Rc × St :=
  if d.2.e ≠ 0 then (zR, d.2)
  else if q.ty ≠ 33 then (⟨q, 65536 * hi + lo, d.1, 0, 0, 0, []⟩, d.2)
  else if d.1.length < 7 then (zR, ⟨d.2.at_, 172⟩)
  else
    let t := rKo (b.take d.2.at_) (d.2.at_ - d.1.length)
    (⟨q, 65536 * hi + lo, [], t.1, t.2.1, t.2.2.1, t.2.2.2.1⟩, if t.2.2.2.2.e ≠ 0 ∨ t.2.2.2.2.at_ ≠ d.2.at_ then ⟨d.2.at_, 172⟩ else d.2)
theorem rR_eq (b : List UInt8) (s : St) : rR b s = rKk b (rQ b s).1 (rNum b (rQ b s).2).1 (rNum b (rNum b (rQ b s).2).2).1 (rD b s) := by
  kernel_rfl
theorem rKk_err {b : List UInt8} {q : Qn} {hi lo : Nat} {d : List UInt8 × St} (h : (rKk b q hi lo d).2.e = 0) : d.2.e = 0 ∧ (rKk b q hi lo d).2 = d.2 := by
  unfold rKk at h ⊢
  by_cases h1 : d.2.e = 0
  · rw [if_neg (by simp [h1])] at h ⊢
    by_cases h2 : q.ty = 33
    · rw [if_neg (by simp [h2])] at h ⊢
      by_cases h3 : d.1.length < 7
      · rw [if_pos h3] at h; cases h
      · rw [if_neg h3] at h ⊢
        simp only at h ⊢
        split at h
        · cases h
        · rename_i hc
          rw [if_neg hc]
          exact ⟨h1, rfl⟩
    · rw [if_pos h2] at h ⊢
      exact ⟨h1, rfl⟩
  · rw [if_pos h1] at h
    exact absurd h h1
theorem rR_err {b : List UInt8} {s : St} (h : (rR b s).2.e = 0) : (rD b s).2.e = 0 ∧ (rR b s).2 = (rD b s).2 := by
  rw [rR_eq] at h ⊢
  exact rKk_err h
theorem lc_d : Lc rD := by
  intro b B s hp hs h
  have h4 := take_err (b := b) h
  have h3 := num_err h4.1
  have h2 := num_err h3.1
  have h1 := num_err h2.1
  obtain ⟨g0, e0, l0⟩ := lc_q b B s hp hs h1.1
  obtain ⟨g1, e1, l1⟩ := lc_num b B _ hp (fun _ => l0) h2.1
  obtain ⟨g2, e2, l2⟩ := lc_num b B _ hp (fun _ => l1) h3.1
  obtain ⟨g3, e3, l3⟩ := lc_num b B _ hp (fun _ => l2) h4.1
  obtain ⟨g4, e4, l4⟩ := lc_take _ b B _ hp (fun _ => l3) h
  refine ⟨g0, ?_, l4⟩
  simp only [rD, e0, e1, e2, e3]
  exact e4
theorem lc_r : Lc rR := by
  intro b B s hp hs h
  obtain ⟨hd, hst⟩ := rR_err h
  obtain ⟨g, ed, ld⟩ := lc_d b B s hp hs hd
  have h4 := take_err (b := b) hd
  have h3 := num_err h4.1
  have h2 := num_err h3.1
  have h1 := num_err h2.1
  obtain ⟨g0, e0, l0⟩ := lc_q b B s hp hs h1.1
  obtain ⟨g1, e1, l1⟩ := lc_num b B _ hp (fun _ => l0) h2.1
  obtain ⟨g2, e2, l2⟩ := lc_num b B _ hp (fun _ => l1) h3.1
  refine ⟨g, ?_, by rw [hst]; exact ld⟩
  rw [rR_eq, rR_eq, ed, e0, e1, e2]
  generalize rD b s = d at *
  unfold rKk
  rw [hp.take ld]
theorem name_right {b : List UInt8} {s : St} (hs : s.at_ ≤ b.length) (h : (rName b s).2.e = 0) : rightN (rName b s).1 = true := by
  have h0 := name_err h
  unfold rName at h ⊢
  rw [if_pos h0] at h ⊢
  rcases readN_errs b s.at_ hs with ⟨_, h2⟩ | ⟨_, _, h2⟩
  · exact h2
  · simp only at h
    rw [h] at h2
    omega
theorem num_lt (b : List UInt8) (s : St) : (rNum b s).1 < 65536 := by
  unfold rNum num2
  simp only
  have := ((rTake b 2 s).1.getD 0 0).toNat_lt
  have := ((rTake b 2 s).1.getD 1 0).toNat_lt
  omega
theorem q_right {b : List UInt8} {s : St} (hs : s.e = 0 → s.at_ ≤ b.length) (h : (rQ b s).2.e = 0) : rightN (rQ b s).1.nm = true ∧ okQ (rQ b s).1 := by
  have h1 := num_err (num_err h).1
  exact ⟨name_right (hs (name_err h1.1)) h1.1, num_lt _ _, num_lt _ _⟩
theorem rKk_right {b : List UInt8} {q : Qn} {hi lo : Nat} {d : List UInt8 × St} (hn : rightN q.nm = true) (hq : okQ q) (a1 : hi < 65536) (a2 : lo < 65536) (hlen : d.1.length ≤ 4096) (h : (rKk b q hi lo d).2.e = 0) : rightR (rKk b q hi lo d).1 = true ∧ okR (rKk b q hi lo d).1 := by
  obtain ⟨hd, _⟩ := rKk_err h
  unfold rKk at h ⊢
  rw [if_neg (by simp [hd])] at h ⊢
  by_cases h33 : q.ty = 33
  · rw [if_neg (by simp [h33])] at h ⊢
    by_cases h7 : d.1.length < 7
    · rw [if_pos h7] at h; cases h
    · rw [if_neg h7] at h ⊢
      simp only at h ⊢
      generalize b.take d.2.at_ = o at *
      generalize d.2.at_ - d.1.length = n at *
      have hte : (rKo o n).2.2.2.2.e = 0 := by
        by_cases hz : (rKo o n).2.2.2.2.e = 0
        · exact hz
        · rw [if_pos (Or.inl hz)] at h; cases h
      have hte' : (rName o (rNum o (rNum o (rNum o ⟨n, 0⟩).2).2).2).2.e = 0 := hte
      have k3 := num_err (name_err hte')
      have ht : rightN (rKo o n).2.2.2.1 = true := name_right (by rw [k3.2.2]; exact k3.2.1) hte'
      refine ⟨?_, hq, by simp only; omega, num_lt _ _, num_lt _ _, num_lt _ _⟩
      simp [rightR, hn, h33, ht]
  · rw [if_pos h33] at h ⊢
    refine ⟨?_, hq, by simp only; omega, by simp, by simp, by simp⟩
    simp [rightR, hn, h33, hlen]
theorem r_right {b : List UInt8} {s : St} (hb : b.length ≤ 4096) (hs : s.e = 0 → s.at_ ≤ b.length) (h : (rR b s).2.e = 0) : rightR (rR b s).1 = true ∧ okR (rR b s).1 := by
  obtain ⟨hd, _⟩ := rR_err h
  have h4 := take_err (b := b) hd
  have h3 := num_err h4.1
  have h2 := num_err h3.1
  have h1 := num_err h2.1
  obtain ⟨hn, hq⟩ := q_right hs h1.1
  have hlen : (rD b s).1.length ≤ 4096 := by
    have : (rD b s).1 = _ := h4.2.2.2
    rw [this, List.length_take, List.length_drop]
    omega
  rw [rR_eq] at h ⊢
  exact rKk_right hn hq (num_lt _ _) (num_lt _ _) hlen h
attribute [local irreducible] rR rQ in
theorem qs_read {b B : List UInt8} {s : St} (hp : Pre b B) (hs : s.e = 0 → s.at_ ≤ b.length) : ∀ k, (rQs b s k).2.e = 0 → s.e = 0 ∧ rQs B s k = rQs b s k ∧ (rQs b s k).2.at_ ≤ b.length ∧ (∀ q ∈ (rQs b s k).1, rightN q.nm = true ∧ okQ q) ∧ (rQs b s k).1.length = k := by
  intro k
  induction k with
  | zero => intro h; exact ⟨h, rfl, hs h, fun q hq => (by cases hq), rfl⟩
  | succ k ih =>
    intro h
    have h' : (rQ b (rQs b s k).2).2.e = 0 := h
    obtain ⟨i1, i2, i3, i4, i5⟩ := ih (q_err h')
    obtain ⟨j1, j2, j3⟩ := lc_q b B _ hp (fun _ => i3) h'
    refine ⟨i1, ?_, j3, fun q hq => ?_, ?_⟩
    · rw [rQs, i2, j2]; rfl
    · rw [rQs] at hq
      rcases List.mem_append.1 hq with hq | hq
      · exact i4 q hq
      · rw [List.mem_singleton.1 hq]
        exact q_right (fun _ => i3) h'
    · rw [rQs, List.length_append, i5]; rfl
attribute [local irreducible] rR rQ in
theorem rs_read {b B : List UInt8} {s : St} (hp : Pre b B) (hb : b.length ≤ 4096) (hs : s.e = 0 → s.at_ ≤ b.length) : ∀ k, (rRs b s k).2.e = 0 → s.e = 0 ∧ rRs B s k = rRs b s k ∧ (rRs b s k).2.at_ ≤ b.length ∧ (∀ q ∈ (rRs b s k).1, rightR q = true ∧ okR q) ∧ (rRs b s k).1.length = k := by
  intro k
  induction k with
  | zero => intro h; exact ⟨h, rfl, hs h, fun q hq => (by cases hq), rfl⟩
  | succ k ih =>
    intro h
    have h' : (rR b (rRs b s k).2).2.e = 0 := h
    have h0 : (rRs b s k).2.e = 0 := by
      obtain ⟨hd, _⟩ := rR_err h'
      exact q_err (num_err (num_err (num_err (take_err (b := b) hd).1).1).1).1
    obtain ⟨i1, i2, i3, i4, i5⟩ := ih h0
    obtain ⟨j1, j2, j3⟩ := lc_r b B _ hp (fun _ => i3) h'
    refine ⟨i1, ?_, j3, fun q hq => ?_, ?_⟩
    · rw [rRs, i2, j2]; rfl
    · rw [rRs] at hq
      rcases List.mem_append.1 hq with hq | hq
      · exact i4 q hq
      · rw [List.mem_singleton.1 hq]
        exact r_right hb (fun _ => i3) h'
    · rw [rRs, List.length_append, i5]; rfl
theorem hd_lt (b : List UInt8) (i : Nat) : hd b i < 65536 := by
  unfold hd num2
  have := ((b.drop (2 * i)).getD 0 0).toNat_lt
  have := ((b.drop (2 * i)).getD 1 0).toNat_lt
  omega
theorem hd_pre {b B : List UInt8} (hp : Pre b B) (i : Nat) (h : 2 * i + 2 ≤ b.length) : hd B i = hd b i := by
  obtain ⟨t, rfl⟩ := hp
  unfold hd num2
  rw [List.drop_append_of_le_length (by omega)]
  have hl : (b.drop (2 * i)).length ≥ 2 := by rw [List.length_drop]; omega
  match hm : b.drop (2 * i), hl with
  | x :: y :: r, _ => rfl
/-- lists behind the head -/
structure Rest (b : List UInt8) (n2 n3 n4 n5 : Nat) where
  q : List Qn × St
  x : List Rc × St
  y : List Rc × St
  z : List Rc × St
  hq : q = rQs b ⟨12, 0⟩ n2
  hx : x = rRs b q.2 n3
  hy : y = rRs b x.2 n4
  hz : z = rRs b y.2 n5
def fin (b : List UInt8) (i f : Nat) (q : List Qn × St) (x y z : List Rc × St) : Ms × Nat :=
  if (if z.2.e = 0 then (if z.2.at_ < b.length then 173 else 0) else z.2.e) = 0 then (⟨i, f, q.1, x.1, y.1, z.1⟩, 0) else (zM, (if z.2.e = 0 then (if z.2.at_ < b.length then 173 else 0) else z.2.e))
theorem readM_eq (b : List UInt8) (c1 : ¬ 4096 < b.length) (c2 : ¬ b.length < 12) (c3 : ¬ 256 < hd b 2 + hd b 3 + hd b 4 + hd b 5) (r : Rest b (hd b 2) (hd b 3) (hd b 4) (hd b 5)) :
    readM b = fin b (hd b 0) (hd b 1) r.q r.x r.y r.z := by
  obtain ⟨q, x, y, z, hq, hx, hy, hz⟩ := r
  simp only
  subst hz hy hx hq
  unfold readM
  rw [if_neg c1, if_neg c2, if_neg c3]
  rfl
attribute [local irreducible] rR rQ in
theorem rs_err {b : List UInt8} (s : St) : ∀ k, (rRs b s k).2.e = 0 → s.e = 0 := by
  intro k
  induction k with
  | zero => exact id
  | succ k ih =>
    intro h
    have h' : (rR b (rRs b s k).2).2.e = 0 := h
    obtain ⟨hd, _⟩ := rR_err h'
    exact ih (q_err (num_err (num_err (num_err (take_err (b := b) hd).1).1).1).1)
theorem fin_ok {b : List UInt8} {i f : Nat} {q : List Qn × St} {x y z : List Rc × St} (h : (fin b i f q x y z).2 = 0) : z.2.e = 0 ∧ b.length ≤ z.2.at_ ∧ fin b i f q x y z = (⟨i, f, q.1, x.1, y.1, z.1⟩, 0) := by
  unfold fin at h ⊢
  by_cases c4 : (if z.2.e = 0 then (if z.2.at_ < b.length then 173 else 0) else z.2.e) = 0
  · rw [if_pos c4]
    by_cases hh : z.2.e = 0
    · rw [if_pos hh] at c4
      by_cases hl : z.2.at_ < b.length
      · rw [if_pos hl] at c4; cases c4
      · exact ⟨hh, by omega, rfl⟩
    · rw [if_neg hh] at c4; exact absurd c4 hh
  · rw [if_neg c4] at h
    exact absurd h c4
theorem fin_rest {b : List UInt8} {i f : Nat} {q : List Qn × St} {x y z : List Rc × St} (h : z.2.e = 0) (hl : z.2.at_ < b.length) : fin b i f q x y z = (zM, 173) := by
  simp [fin, h, hl]
theorem rest_read {b : List UInt8} {n2 n3 n4 n5 : Nat} (hb : b.length ≤ 4096) (h12 : 12 ≤ b.length) (r : Rest b n2 n3 n4 n5) (hze : r.z.2.e = 0) (B : List UInt8) (hp : Pre b B) :
    (rQs B ⟨12, 0⟩ n2 = r.q ∧ r.q.2.at_ ≤ b.length ∧ (∀ a ∈ r.q.1, rightN a.nm = true ∧ okQ a) ∧ r.q.1.length = n2) ∧ (rRs B r.q.2 n3 = r.x ∧ r.x.2.at_ ≤ b.length ∧ (∀ a ∈ r.x.1, rightR a = true ∧ okR a) ∧ r.x.1.length = n3) ∧
        (rRs B r.x.2 n4 = r.y ∧ r.y.2.at_ ≤ b.length ∧ (∀ a ∈ r.y.1, rightR a = true ∧ okR a) ∧ r.y.1.length = n4) ∧ (rRs B r.y.2 n5 = r.z ∧ r.z.2.at_ ≤ b.length ∧ (∀ a ∈ r.z.1, rightR a = true ∧ okR a) ∧ r.z.1.length = n5) := by
  obtain ⟨q, x, y, z, hq, hx, hy, hz⟩ := r
  simp only at hze ⊢
  have hye := rs_err y.2 _ (by rw [← hz]; exact hze)
  have hxe := rs_err x.2 _ (by rw [← hy]; exact hye)
  have hqe := rs_err q.2 _ (by rw [← hx]; exact hxe)
  have q1 := qs_read (s := ⟨12, 0⟩) hp (fun _ => h12) n2 (by rw [← hq]; exact hqe)
  rw [← hq] at q1
  have x1 := rs_read (s := q.2) hp hb (fun _ => q1.2.2.1) n3 (by rw [← hx]; exact hxe)
  rw [← hx] at x1
  have y1 := rs_read (s := x.2) hp hb (fun _ => x1.2.2.1) n4 (by rw [← hy]; exact hye)
  rw [← hy] at y1
  have z1 := rs_read (s := y.2) hp hb (fun _ => y1.2.2.1) n5 (by rw [← hz]; exact hze)
  rw [← hz] at z1
  exact ⟨q1.2, x1.2, y1.2, z1.2⟩
theorem read_cases (b : List UInt8) : readM b = (zM, 3) ∨ readM b = (zM, 171) ∨ readM b = (zM, 5) ∨ (¬ 4096 < b.length ∧ ¬ b.length < 12 ∧ ¬ 256 < hd b 2 + hd b 3 + hd b 4 + hd b 5) := by
  unfold readM
  by_cases c1 : 4096 < b.length
  · rw [if_pos c1]; exact Or.inl rfl
  rw [if_neg c1]
  by_cases c2 : b.length < 12
  · rw [if_pos c2]; exact Or.inr (Or.inl rfl)
  rw [if_neg c2]
  by_cases c3 : 256 < hd b 2 + hd b 3 + hd b 4 + hd b 5
  · rw [if_pos c3]; exact Or.inr (Or.inr (Or.inl rfl))
  exact Or.inr (Or.inr (Or.inr ⟨c1, c2, c3⟩))
/-- a message that is read: right, its numbers fit; and reading it from the beginning of more bytes comes to the same -/
theorem read_ok {b : List UInt8} (h : (readM b).2 = 0) : rightM (readM b).1 = true ∧ okM (readM b).1 ∧ (readM b).1.num ≤ 256 ∧ 12 ≤ b.length ∧ b.length ≤ 4096 ∧
    ∀ B, Pre b B → b.length < B.length → B.length ≤ 4096 → readM B = (zM, 173) := by
  rcases read_cases b with h1 | h1 | h1 | ⟨c1, c2, c3⟩
  · rw [h1] at h; cases h
  · rw [h1] at h; cases h
  · rw [h1] at h; cases h
  have hb : b.length ≤ 4096 := by omega
  have h12 : 12 ≤ b.length := by omega
  let r : Rest b (hd b 2) (hd b 3) (hd b 4) (hd b 5) := ⟨_, _, _, _, rfl, rfl, rfl, rfl⟩
  have e := readM_eq b c1 c2 c3 r
  rw [e] at h ⊢
  obtain ⟨hze, hat, e2⟩ := fin_ok h
  have hall := rest_read hb h12 r hze
  clear_value r
  rw [e2]
  have a0 := hall b (Pre.refl b)
  refine ⟨?_, ⟨hd_lt _ _, hd_lt _ _, fun a ha => (a0.1.2.2.1 a ha).2, fun a ha => (a0.2.1.2.2.1 a ha).2, fun a ha => (a0.2.2.1.2.2.1 a ha).2, fun a ha => (a0.2.2.2.2.2.1 a ha).2⟩, ?_, h12, hb, ?_⟩
  · simp only [rightM, Bool.and_eq_true, List.all_eq_true]
    exact ⟨fun a ha => (a0.1.2.2.1 a ha).1, fun a ha => (a0.2.1.2.2.1 a ha).1, fun a ha => (a0.2.2.1.2.2.1 a ha).1, fun a ha => (a0.2.2.2.2.2.1 a ha).1⟩
  · simp only [Ms.num]
    rw [a0.1.2.2.2, a0.2.1.2.2.2, a0.2.2.1.2.2.2, a0.2.2.2.2.2.2]
    omega
  · intro B hp hlt hB
    obtain ⟨b1, b2, b3, b4⟩ := hall B hp
    have g2 := hd_pre hp 2 (by omega)
    have g3 := hd_pre hp 3 (by omega)
    have g4 := hd_pre hp 4 (by omega)
    have g5 := hd_pre hp 5 (by omega)
    rw [readM_eq B (by omega) (by omega) (by rw [g2, g3, g4, g5]; exact c3) ⟨r.q, r.x, r.y, r.z, by rw [g2]; exact b1.1.symm, by rw [g3]; exact b2.1.symm, by rw [g4]; exact b3.1.symm, by rw [g5]; exact b4.1.symm⟩]
    exact fin_rest hze (Nat.lt_of_le_of_lt b4.2.1 hlt)
/-- a form that is cut off is not read -/
theorem read_cut {m : Ms} (hr : rightM m = true) (hk : okM m) (hn : m.num ≤ 256) (hB : (formM m).length ≤ 4096) (j : Nat) (hj : j < (formM m).length) : (readM ((formM m).take j)).2 ≠ 0 := by
  intro h
  have h1 := (read_ok h).2.2.2.2.2 (formM m) (Pre.of_take _ _) (by rw [List.length_take]; omega) hB
  rw [read_form hr hk hn hB] at h1
  have := congrArg Prod.snd h1
  simp at this
theorem read_err {b : List UInt8} (h : (readM b).2 ≠ 0) : (readM b).1 = zM := by
  rcases read_cases b with h1 | h1 | h1 | ⟨c1, c2, c3⟩
  · rw [h1]
  · rw [h1]
  · rw [h1]
  let r : Rest b (hd b 2) (hd b 3) (hd b 4) (hd b 5) := ⟨_, _, _, _, rfl, rfl, rfl, rfl⟩
  have e := readM_eq b c1 c2 c3 r
  rw [e] at h ⊢
  clear_value r
  unfold fin at h ⊢
  generalize (if r.z.2.e = 0 then (if r.z.2.at_ < b.length then 173 else 0) else r.z.2.e) = e at *
  by_cases hc : e = 0
  · rw [if_pos hc] at h
    exact absurd rfl h
  · rw [if_neg hc]
end Go.Proofs.Ytlipmlbijddopaa
