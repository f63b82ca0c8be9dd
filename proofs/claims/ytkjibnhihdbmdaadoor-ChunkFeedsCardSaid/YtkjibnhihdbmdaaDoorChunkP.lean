/-
  Chunked bodies: the machine of package chunk and the reading of the reference, as plain functions; both read the same.
-/
import Derived.Test.YtkjibnhihdbmdaaDoorChunkBase
set_option linter.unusedVariables false
set_option linter.unusedSimpArgs false
namespace Go.Proofs.YtkjibnhihdbmdaaDoor
inductive St where
  | first | more | ext | sized | data | behind | next | after | trailer | taken | last | nil
  deriving DecidableEq, Repr
structure Rdr where
  st : St
  bad : Nat
  body : List UInt8
  trs : List (List UInt8)
  line : List UInt8
  size : Nat
  digits : Nat
def newR : Rdr := ⟨.first, 0, [], [], [], 0, 0⟩
/-- the value of a digit; 16 if it is none -/
def dig (c : UInt8) : Nat := if 48 ≤ c.toNat ∧ c.toNat ≤ 57 then c.toNat - 48 else if 97 ≤ c.toNat ∧ c.toNat ≤ 102 then c.toNat - 87 else if 65 ≤ c.toNat ∧ c.toNat ≤ 70 then c.toNat - 55 else 16
theorem dig_le (c : UInt8) : dig c ≤ 16 := by unfold dig; split <;> (try split) <;> (try split) <;> omega
def endE (c : UInt8) : Nat := if c = 10 then 0 else 191
def longR (r : Rdr) (c : UInt8) : Rdr × Nat := if c = 10 then (r, 191) else if r.line.length = 256 then (r, 5) else ({ r with line := r.line ++ [c] }, 0)
def moreR (r : Rdr) (c : UInt8) : Rdr × Nat :=
  if dig c < 16 then ({ r with size := 16 * r.size + dig c, digits := r.digits + 1 }, if 8 < r.digits + 1 ∨ 65536 - r.body.length < 16 * r.size + dig c then 3 else 0)
  else if c = 59 then ({ r with line := [c], st := .ext }, 0) else if c = 13 then ({ r with st := .sized }, 0) else (r, 190)
def stepR (r : Rdr) (c : UInt8) : Rdr × Nat :=
  match r.st with
  | .first => if dig c = 16 then (r, 190) else moreR { r with size := 0, digits := 0, st := .more } c
  | .more => moreR r c
  | .ext => if c = 13 then ({ r with st := .sized }, 0) else longR r c
  | .sized => ({ r with st := if r.size = 0 then .after else .data }, endE c)
  | .data => ({ r with body := r.body ++ [c], size := r.size - 1, st := if r.size - 1 = 0 then .behind else .data }, 0)
  | .behind => ({ r with st := .next }, if c = 13 then 0 else 191)
  | .next => ({ r with st := .first }, endE c)
  | .after => if c = 13 then ({ r with st := .last }, 0) else if c ≠ 10 ∧ r.trs.length = 16 then (r, 5) else longR { r with line := [], st := .trailer } c
  | .trailer => if c = 13 then ({ r with st := .taken }, 0) else longR r c
  | .taken => ({ r with trs := if c = 10 then r.trs ++ [r.line] else r.trs, st := .after }, endE c)
  | .last => ({ r with st := .nil }, endE c)
  | .nil => (r, 0)
/-- what a reader does with bytes, of which the first one is the 'at'th -/
def goR : Rdr → List UInt8 → Nat → Rdr × Nat
  | r, [], at_ => (r, at_)
  | r, c :: l, at_ => if r.st = .nil then (r, at_) else if (stepR r c).2 ≠ 0 then ({ (stepR r c).1 with st := .nil, bad := (stepR r c).2 }, at_) else goR (stepR r c).1 l (at_ + 1)
/-- what the reference tells -/
structure Rding where
  At : Nat
  bad : Nat
  done : Bool
  body : List UInt8
  trs : List (List UInt8)
  deriving DecidableEq
def finR (x : Rdr × Nat) : Rding := ⟨x.2, x.1.bad, decide (x.1.st = .nil ∧ x.1.bad = 0), x.1.body, x.1.trs⟩
/-! ### the reference's functions -/
inductive LRes where
  | stop (At bad : Nat)
  | ok (own rest : List UInt8) (At : Nat)
def lineL : List UInt8 → List UInt8 → Nat → LRes
  | [], _, at_ => .stop at_ 0
  | c :: l, own, at_ =>
    if c = 13 then
      match l with
      | [] => .stop (at_ + 1) 0
      | d :: l => if d = 10 then .ok own l (at_ + 2) else .stop (at_ + 1) 191
    else if c = 10 then .stop at_ 191 else if own.length = 256 then .stop at_ 5 else lineL l (own ++ [c]) (at_ + 1)
inductive SRes where
  | stop (At bad : Nat)
  | ok (n : Nat) (rest : List UInt8) (At : Nat)
/-- n so far of k digits -/
def sizeL (room : Nat) : List UInt8 → Nat → Nat → Nat → SRes
  | [], _, _, at_ => .stop at_ 0
  | c :: l, n, k, at_ =>
    if dig c = 16 then
      if k = 0 ∨ c ≠ 59 ∧ c ≠ 13 then .stop at_ 190
      else match lineL (c :: l) [] at_ with
        | .stop a b => .stop a b
        | .ok _ rest a => .ok n rest a
    else if k = 8 ∨ room < 16 * n + dig c then .stop at_ 3 else sizeL room l (16 * n + dig c) (k + 1) (at_ + 1)
def trailL : Nat → List UInt8 → Nat → List UInt8 → List (List UInt8) → Rding
  | 0, _, at_, body, trs => ⟨at_, 0, false, body, trs⟩
  | _ + 1, [], at_, body, trs => ⟨at_, 0, false, body, trs⟩
  | f + 1, c :: l, at_, body, trs =>
    if c = 13 then
      match l with
      | [] => ⟨at_ + 1, 0, false, body, trs⟩
      | d :: l => if d = 10 then ⟨at_ + 2, 0, true, body, trs⟩ else ⟨at_ + 1, 191, false, body, trs⟩
    else if c ≠ 10 ∧ trs.length = 16 then ⟨at_, 5, false, body, trs⟩
    else match lineL (c :: l) [] at_ with
      | .stop a b => ⟨a, b, false, body, trs⟩
      | .ok own rest a => trailL f rest a body (trs ++ [own])
def allL : Nat → List UInt8 → Nat → List UInt8 → Rding
  | 0, _, at_, body => ⟨at_, 0, false, body, []⟩
  | f + 1, l, at_, body =>
    match sizeL (65536 - body.length) l 0 0 at_ with
    | .stop a b => ⟨a, b, false, body, []⟩
    | .ok n rest a =>
      if n = 0 then trailL (rest.length + 1) rest a body []
      else if rest.length < n then ⟨a + rest.length, 0, false, body ++ rest, []⟩
      else match rest.drop n with
        | [] => ⟨a + n, 0, false, body ++ rest.take n, []⟩
        | c :: m =>
          if c = 13 then
            match m with
            | [] => ⟨a + n + 1, 0, false, body ++ rest.take n, []⟩
            | d :: m => if d = 10 then allL f m (a + n + 2) (body ++ rest.take n) else ⟨a + n + 1, 191, false, body ++ rest.take n, []⟩
          else ⟨a + n, 191, false, body ++ rest.take n, []⟩
/-! ### a line -/
theorem line_rest : ∀ (l own : List UInt8) (at_ : Nat) {o rest : List UInt8} {a : Nat}, lineL l own at_ = .ok o rest a → rest.length < l.length ∧ at_ < a ∧ a + rest.length = at_ + l.length
  | [], _, _, _, _, _, h => by cases h
  | c :: l, own, at_, o, rest, a, h => by
    unfold lineL at h
    split at h
    · split at h
      · cases h
      · split at h
        · cases h; simp; omega
        · cases h
    · split at h
      · cases h
      · split at h
        · cases h
        · have := line_rest l _ _ h
          simp only [List.length_cons]; omega
theorem go_line_ext : ∀ (l : List UInt8) (r : Rdr) (at_ : Nat), r.st = .ext → r.bad = 0 →
    (∀ a b, lineL l r.line at_ = .stop a b → finR (goR r l at_) = ⟨a, b, false, r.body, r.trs⟩) ∧
    (∀ o rest a, lineL l r.line at_ = .ok o rest a → goR r l at_ = goR { r with st := if r.size = 0 then .after else .data, line := o } rest a)
  | [], r, at_, hs, hb => by
    refine ⟨fun a b h => ?_, fun o rest a h => by cases h⟩
    cases h
    simp [goR, finR, hs, hb]
  | c :: l, r, at_, hs, hb => by
    by_cases h13 : c = 13
    · subst h13
      have e1 : stepR r 13 = ({ r with st := .sized }, 0) := by simp [stepR, hs]
      cases l with
      | nil =>
        refine ⟨fun a b h => ?_, fun o rest a h => by simp [lineL] at h⟩
        simp [lineL] at h
        obtain ⟨rfl, rfl⟩ := h
        simp [goR, finR, hs, hb, e1]
      | cons d l =>
        by_cases h10 : d = 10
        · subst h10
          refine ⟨fun a b h => by simp [lineL] at h, fun o rest a h => ?_⟩
          simp [lineL] at h
          obtain ⟨rfl, rfl, rfl⟩ := h
          simp [goR, hs, e1, stepR, endE]
        · refine ⟨fun a b h => ?_, fun o rest a h => by simp [lineL, h10] at h⟩
          simp [lineL, h10] at h
          obtain ⟨rfl, rfl⟩ := h
          simp [goR, finR, hs, hb, e1, stepR, endE, h10]
    · by_cases h10 : c = 10
      · subst h10
        have e1 : stepR r 10 = (r, 191) := by simp [stepR, hs, longR]
        refine ⟨fun a b h => ?_, fun o rest a h => by simp [lineL] at h⟩
        simp [lineL] at h
        obtain ⟨rfl, rfl⟩ := h
        simp [goR, finR, hs, e1]
      · by_cases hl : r.line.length = 256
        · have e1 : stepR r c = (r, 5) := by simp [stepR, hs, longR, h13, h10, hl]
          refine ⟨fun a b h => ?_, fun o rest a h => by simp [lineL, h13, h10, hl] at h⟩
          simp [lineL, h13, h10, hl] at h
          obtain ⟨rfl, rfl⟩ := h
          simp [goR, finR, hs, e1]
        · have e1 : stepR r c = ({ r with line := r.line ++ [c] }, 0) := by simp [stepR, hs, longR, h13, h10, hl]
          have e2 : goR r (c :: l) at_ = goR { r with line := r.line ++ [c] } l (at_ + 1) := by simp [goR, hs, e1]
          have e3 : lineL (c :: l) r.line at_ = lineL l (r.line ++ [c]) (at_ + 1) := by rw [lineL.eq_def]; simp [h13, h10, hl]
          rw [e2, e3]
          exact go_line_ext l { r with line := r.line ++ [c] } (at_ + 1) hs hb
theorem go_line_trailer : ∀ (l : List UInt8) (r : Rdr) (at_ : Nat), r.st = .trailer → r.bad = 0 →
    (∀ a b, lineL l r.line at_ = .stop a b → finR (goR r l at_) = ⟨a, b, false, r.body, r.trs⟩) ∧
    (∀ o rest a, lineL l r.line at_ = .ok o rest a → goR r l at_ = goR { r with st := .after, line := o, trs := r.trs ++ [o] } rest a)
  | [], r, at_, hs, hb => by
    refine ⟨fun a b h => ?_, fun o rest a h => by cases h⟩
    cases h
    simp [goR, finR, hs, hb]
  | c :: l, r, at_, hs, hb => by
    by_cases h13 : c = 13
    · subst h13
      have e1 : stepR r 13 = ({ r with st := .taken }, 0) := by simp [stepR, hs]
      cases l with
      | nil =>
        refine ⟨fun a b h => ?_, fun o rest a h => by simp [lineL] at h⟩
        simp [lineL] at h
        obtain ⟨rfl, rfl⟩ := h
        simp [goR, finR, hs, hb, e1]
      | cons d l =>
        by_cases h10 : d = 10
        · subst h10
          refine ⟨fun a b h => by simp [lineL] at h, fun o rest a h => ?_⟩
          simp [lineL] at h
          obtain ⟨rfl, rfl, rfl⟩ := h
          simp [goR, hs, e1, stepR, endE]
        · refine ⟨fun a b h => ?_, fun o rest a h => by simp [lineL, h10] at h⟩
          simp [lineL, h10] at h
          obtain ⟨rfl, rfl⟩ := h
          simp [goR, finR, hs, hb, e1, stepR, endE, h10]
    · by_cases h10 : c = 10
      · subst h10
        have e1 : stepR r 10 = (r, 191) := by simp [stepR, hs, longR]
        refine ⟨fun a b h => ?_, fun o rest a h => by simp [lineL] at h⟩
        simp [lineL] at h
        obtain ⟨rfl, rfl⟩ := h
        simp [goR, finR, hs, e1]
      · by_cases hl : r.line.length = 256
        · have e1 : stepR r c = (r, 5) := by simp [stepR, hs, longR, h13, h10, hl]
          refine ⟨fun a b h => ?_, fun o rest a h => by simp [lineL, h13, h10, hl] at h⟩
          simp [lineL, h13, h10, hl] at h
          obtain ⟨rfl, rfl⟩ := h
          simp [goR, finR, hs, e1]
        · have e1 : stepR r c = ({ r with line := r.line ++ [c] }, 0) := by simp [stepR, hs, longR, h13, h10, hl]
          have e2 : goR r (c :: l) at_ = goR { r with line := r.line ++ [c] } l (at_ + 1) := by simp [goR, hs, e1]
          have e3 : lineL (c :: l) r.line at_ = lineL l (r.line ++ [c]) (at_ + 1) := by rw [lineL.eq_def]; simp [h13, h10, hl]
          rw [e2, e3]
          exact go_line_trailer l { r with line := r.line ++ [c] } (at_ + 1) hs hb
/-! ### a size -/
theorem go_size : ∀ (l : List UInt8) (r : Rdr) (at_ : Nat), (r.st = .more ∧ r.digits ≠ 0 ∨ r.st = .first ∧ r.size = 0 ∧ r.digits = 0) → r.digits ≤ 8 → r.bad = 0 →
    (∀ a b, sizeL (65536 - r.body.length) l r.size r.digits at_ = .stop a b → finR (goR r l at_) = ⟨a, b, false, r.body, r.trs⟩) ∧
    (∀ n rest a, sizeL (65536 - r.body.length) l r.size r.digits at_ = .ok n rest a → ∃ o k, goR r l at_ = goR { r with st := if n = 0 then .after else .data, line := o, size := n, digits := k } rest a)
  | [], r, at_, hs, hd, hb => by
    refine ⟨fun a b h => ?_, fun o rest a h => by cases h⟩
    cases h
    rcases hs with ⟨hs, _⟩ | ⟨hs, _⟩ <;> simp [goR, finR, hs, hb]
  | c :: l, r, at_, hs, hd, hb => by
    have hnil : r.st ≠ .nil := by rcases hs with ⟨hs, _⟩ | ⟨hs, _⟩ <;> simp [hs]
    have hc13 : dig 13 = 16 := by decide
    have hc59 : dig 59 = 16 := by decide
    by_cases h16 : dig c = 16
    · by_cases hbad : r.digits = 0 ∨ c ≠ 59 ∧ c ≠ 13
      · have e1 : stepR r c = (r, 190) := by
          rcases hs with ⟨hs, h0⟩ | ⟨hs, h0⟩
          · rcases hbad with h | h
            · omega
            · simp [stepR, hs, moreR, h16, h]
          · simp [stepR, hs, h16]
        refine ⟨fun a b h => ?_, fun o rest a h => ?_⟩
        · simp only [sizeL, h16, hbad, if_true, SRes.stop.injEq] at h
          obtain ⟨rfl, rfl⟩ := h
          simp [goR, finR, hnil, e1]
        · simp only [sizeL, h16, hbad, if_true] at h
          cases h
      · obtain ⟨hs, h0⟩ := hs.resolve_right (fun h => hbad (.inl h.2.2))
        have hsz : sizeL (65536 - r.body.length) (c :: l) r.size r.digits at_ = (match lineL (c :: l) [] at_ with
          | .stop a b => .stop a b
          | .ok _ rest a => .ok r.size rest a) := by simp only [sizeL, h16, hbad, if_true, if_false]
        rw [hsz]
        by_cases hc : c = 13
        · subst hc
          have e1 : stepR r 13 = ({ r with st := .sized }, 0) := by simp [stepR, hs, moreR, hc13]
          cases l with
          | nil =>
            refine ⟨fun a b h => ?_, fun n rest a h => by simp [lineL] at h⟩
            simp [lineL] at h
            obtain ⟨rfl, rfl⟩ := h
            simp [goR, finR, hs, hb, e1]
          | cons d l =>
            by_cases h10 : d = 10
            · subst h10
              refine ⟨fun a b h => by simp [lineL] at h, fun n rest a h => ?_⟩
              simp [lineL] at h
              obtain ⟨rfl, rfl, rfl⟩ := h
              refine ⟨r.line, r.digits, ?_⟩
              simp [goR, hs, e1]
              simp [stepR, endE]
            · refine ⟨fun a b h => ?_, fun o rest a h => by simp [lineL, h10] at h⟩
              simp [lineL, h10] at h
              obtain ⟨rfl, rfl⟩ := h
              simp [goR, finR, hs, hb, e1]
              simp [stepR, endE, h10]
        · have hc9 : c = 59 := by
            by_cases h : c = 59
            · exact h
            · exact absurd (.inr ⟨h, hc⟩) hbad
          subst hc9
          have e0 : goR r (59 :: l) at_ = goR { r with st := .ext, line := [] } (59 :: l) at_ := by
            simp [goR, hs, stepR, moreR, hc59, longR]
          have := go_line_ext (59 :: l) { r with st := .ext, line := [] } at_ rfl hb
          rw [e0]
          refine ⟨fun a b h => ?_, fun n rest a h => ?_⟩
          · split at h
            · rename_i a' b' hL
              cases h
              exact this.1 _ _ hL
            · cases h
          · split at h
            · cases h
            · rename_i o' rest' a' hL
              cases h
              exact ⟨_, _, this.2 _ _ _ hL⟩
    · have hlt : dig c < 16 := by have := dig_le c; omega
      have e1 : stepR r c = ({ r with st := .more, size := 16 * r.size + dig c, digits := r.digits + 1 }, if 8 < r.digits + 1 ∨ 65536 - r.body.length < 16 * r.size + dig c then 3 else 0) := by
        rcases hs with ⟨hs, h0⟩ | ⟨hs, h0, h1⟩
        · obtain ⟨st, bad, body, trs, line, size, digits⟩ := r
          simp only at hs; subst hs
          simp [stepR, moreR, hlt]
        · simp [stepR, hs, moreR, hlt, h16, h0, h1]
      have hk : (r.digits = 8) = (8 < r.digits + 1) := propext ⟨fun h => by omega, fun h => by omega⟩
      by_cases hbig : r.digits = 8 ∨ 65536 - r.body.length < 16 * r.size + dig c
      · refine ⟨fun a b h => ?_, fun o rest a h => ?_⟩
        · simp only [sizeL, h16, hbig, if_true, if_false, SRes.stop.injEq] at h
          obtain ⟨rfl, rfl⟩ := h
          rw [hk] at hbig
          simp [goR, finR, hnil, e1, hbig]
        · simp only [sizeL, h16, hbig, if_true, if_false] at h
          cases h
      · have e2 : sizeL (65536 - r.body.length) (c :: l) r.size r.digits at_ = sizeL (65536 - r.body.length) l (16 * r.size + dig c) (r.digits + 1) (at_ + 1) := by
          simp only [sizeL, h16, hbig, if_false]
        rw [e2]
        have h8 : r.digits ≠ 8 := fun h => hbig (.inl h)
        rw [hk] at hbig
        have e3 : goR r (c :: l) at_ = goR { r with st := .more, size := 16 * r.size + dig c, digits := r.digits + 1 } l (at_ + 1) := by
          simp [goR, hnil, e1, hbig]
        rw [e3]
        exact go_size l { r with st := .more, size := 16 * r.size + dig c, digits := r.digits + 1 } (at_ + 1) (.inl ⟨rfl, Nat.succ_ne_zero _⟩) (by show r.digits + 1 ≤ 8; omega) hb
/-! ### trailers -/
theorem go_trail : ∀ (f : Nat) (l : List UInt8) (r : Rdr) (at_ : Nat), l.length < f → r.st = .after → r.bad = 0 → finR (goR r l at_) = trailL f l at_ r.body r.trs
  | 0, l, r, at_, hf, _, _ => by omega
  | f + 1, [], r, at_, hf, hs, hb => by simp [goR, finR, hs, hb, trailL]
  | f + 1, c :: l, r, at_, hf, hs, hb => by
    by_cases h13 : c = 13
    · subst h13
      have e1 : stepR r 13 = ({ r with st := .last }, 0) := by simp [stepR, hs]
      cases l with
      | nil => simp [goR, finR, hs, hb, e1, trailL]
      | cons d l =>
        by_cases h10 : d = 10
        · subst h10
          cases l <;> simp [goR, finR, hs, hb, e1, trailL, stepR, endE]
        · simp [goR, finR, hs, hb, e1, trailL, stepR, endE, h10]
    · by_cases hm : c ≠ 10 ∧ r.trs.length = 16
      · have e1 : stepR r c = (r, 5) := by simp [stepR, hs, h13, hm]
        simp [goR, finR, hs, hb, e1, trailL, h13, hm]
      · have e0 : goR r (c :: l) at_ = goR { r with st := .trailer, line := [] } (c :: l) at_ := by
          have e1 : stepR r c = stepR { r with st := .trailer, line := [] } c := by
            simp only [stepR, hs, h13, hm, if_false]
          have n1 : r.st ≠ .nil := by simp [hs]
          simp only [goR, n1, e1, if_false]
          rfl
        have := go_line_trailer (c :: l) { r with st := .trailer, line := [] } at_ rfl hb
        rw [e0]
        have e2 : trailL (f + 1) (c :: l) at_ r.body r.trs = (match lineL (c :: l) [] at_ with
          | .stop a b => ⟨a, b, false, r.body, r.trs⟩
          | .ok own rest a => trailL f rest a r.body (r.trs ++ [own])) := by simp only [trailL, h13, hm, if_false]
        rw [e2]
        rcases hL : lineL (c :: l) [] at_ with ⟨a, b⟩ | ⟨o, rest, a⟩
        · exact this.1 _ _ hL
        · rw [this.2 _ _ _ hL]
          have hr := line_rest _ _ _ hL
          exact go_trail f rest _ a (by omega) rfl hb
/-! ### the body of a chunk -/
theorem go_data : ∀ (l : List UInt8) (r : Rdr) (at_ : Nat), r.st = .data → 0 < r.size → r.bad = 0 →
    (l.length < r.size → finR (goR r l at_) = ⟨at_ + l.length, 0, false, r.body ++ l, r.trs⟩) ∧
    (r.size ≤ l.length → goR r l at_ = goR { r with st := .behind, size := 0, body := r.body ++ l.take r.size } (l.drop r.size) (at_ + r.size))
  | [], r, at_, hs, h0, hb => ⟨fun _ => by simp [goR, finR, hs, hb], fun h => by simp at h; omega⟩
  | c :: l, r, at_, hs, h0, hb => by
    by_cases h1 : r.size = 1
    · have e1 : stepR r c = ({ r with st := .behind, size := 0, body := r.body ++ [c] }, 0) := by simp [stepR, hs, h1]
      refine ⟨fun h => by simp at h; omega, fun _ => ?_⟩
      rw [h1]
      simp [goR, hs, e1]
    · have e1 : stepR r c = ({ r with st := .data, size := r.size - 1, body := r.body ++ [c] }, 0) := by
        have : r.size - 1 ≠ 0 := by omega
        simp [stepR, hs, this]
      have e2 : goR r (c :: l) at_ = goR { r with st := .data, size := r.size - 1, body := r.body ++ [c] } l (at_ + 1) := by simp [goR, hs, e1]
      have := go_data l { r with st := .data, size := r.size - 1, body := r.body ++ [c] } (at_ + 1) rfl (by show 0 < r.size - 1; omega) hb
      rw [e2]
      refine ⟨fun h => ?_, fun h => ?_⟩
      · rw [this.1 (by simp at h ⊢; omega)]
        simp; omega
      · rw [this.2 (by simp at h ⊢; omega)]
        obtain ⟨k, hk⟩ : ∃ k, r.size = k + 1 := ⟨r.size - 1, by omega⟩
        simp only [hk, Nat.add_sub_cancel, List.drop_succ_cons, List.take_succ_cons, List.append_assoc, List.singleton_append]
        rw [show at_ + 1 + k = at_ + (k + 1) by omega]
theorem size_rest (room : Nat) : ∀ (l : List UInt8) (n k at_ : Nat) {m : Nat} {rest : List UInt8} {a : Nat}, n ≤ room → sizeL room l n k at_ = .ok m rest a → rest.length < l.length ∧ a + rest.length = at_ + l.length ∧ m ≤ room
  | [], _, _, _, _, _, _, _, h => by cases h
  | c :: l, n, k, at_, m, rest, a, hn, h => by
    unfold sizeL at h
    split at h
    · split at h
      · cases h
      · split at h
        · cases h
        · rename_i hL
          cases h
          have := line_rest _ _ _ hL
          exact ⟨this.1, this.2.2, hn⟩
    · split at h
      · cases h
      · rename_i hq
        have := size_rest room l _ _ _ (by omega) h
        simp only [List.length_cons]; omega
/-! ### all -/
theorem go_all : ∀ (f : Nat) (l : List UInt8) (r : Rdr) (at_ : Nat), l.length < f → r.st = .first → r.bad = 0 → r.trs = [] → finR (goR r l at_) = allL f l at_ r.body
  | 0, l, r, at_, hf, _, _, _ => by omega
  | f + 1, l, r, at_, hf, hs, hb, ht => by
    have e0 : finR (goR r l at_) = finR (goR { r with size := 0, digits := 0 } l at_) := by
      cases l with
      | nil => simp [goR, finR, hs]
      | cons c l =>
        by_cases h16 : dig c = 16
        · simp [goR, finR, hs, stepR, h16]
        · simp [goR, finR, hs, stepR, h16]
    rw [e0]
    have := go_size l { r with size := 0, digits := 0 } at_ (.inr ⟨hs, rfl, rfl⟩) (Nat.zero_le _) hb
    unfold allL
    rcases hS : sizeL (65536 - r.body.length) l 0 0 at_ with ⟨a, b⟩ | ⟨n, rest, a⟩
    · rw [this.1 _ _ hS]; simp [ht]
    · obtain ⟨o, k, e⟩ := this.2 _ _ _ hS
      have hr := size_rest _ l 0 0 at_ (Nat.zero_le _) hS
      rw [e]
      by_cases hn : n = 0
      · simp only [hn, if_true]
        refine (go_trail (rest.length + 1) rest { r with st := .after, line := o, size := 0, digits := k } a (Nat.lt_succ_self _) rfl hb).trans ?_
        simp [ht]
      · simp only [hn, if_false]
        have hd := go_data rest { r with st := .data, line := o, size := n, digits := k } a rfl (by show 0 < n; omega) hb
        by_cases hlt : rest.length < n
        · rw [hd.1 hlt]; simp [hlt, ht]
        · rw [hd.2 (by show n ≤ rest.length; omega)]
          simp only [hlt, if_false]
          have hdl : (rest.drop n).length = rest.length - n := List.length_drop
          rcases hdr : rest.drop n with _ | ⟨c, m⟩
          · simp [goR, finR, hb, ht]
          · rw [hdr] at hdl
            by_cases h13 : c = 13
            · subst h13
              cases m with
              | nil => simp [goR, finR, hb, ht, stepR]
              | cons d m =>
                by_cases h10 : d = 10
                · subst h10
                  simp [goR, stepR, endE]
                  simp at hdl
                  exact go_all f m _ _ (by omega) rfl hb ht
                · simp [goR, finR, hb, ht, stepR, endE, h10]
            · simp [goR, finR, hb, ht, stepR, h13]
/-- the reference reads as the machine -/
theorem ref_all (b : List UInt8) : finR (goR newR b 0) = allL (b.length + 1) b 0 [] := go_all _ b newR 0 (Nat.lt_succ_self _) rfl rfl rfl
/-- cut anywhere, a reader goes on as it would have -/
theorem go_append : ∀ (l m : List UInt8) (r : Rdr) (at_ : Nat), goR r (l ++ m) at_ = if (goR r l at_).1.st = .nil ∧ (m ≠ []) then goR r l at_ else goR (goR r l at_).1 m (goR r l at_).2
  | [], m, r, at_ => by
    cases m with
    | nil => simp [goR]
    | cons c m =>
      by_cases h : r.st = .nil
      · simp [goR, h]
      · by_cases h2 : (stepR r c).2 = 0 <;> simp [goR, h, h2]
  | c :: l, m, r, at_ => by
    by_cases h : r.st = .nil
    · cases m <;> simp [goR, h]
    · by_cases h2 : (stepR r c).2 = 0
      · have := go_append l m (stepR r c).1 (at_ + 1)
        simpa [goR, h, h2] using this
      · cases m <;> simp [goR, h, h2]
end Go.Proofs.YtkjibnhihdbmdaaDoor
