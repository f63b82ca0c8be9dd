/-
  The messages of RFC 1035 in plain Lean: what is right, what is read, what is equal.
-/
import Derived.Test.YtlipmlbijddopaaForm
import Derived.Test.YtlipmlbijddopaaRead
set_option linter.unusedVariables false
set_option linter.unusedSimpArgs false
namespace Go.Proofs.Ytlipmlbijddopaa
open Go.RowKit
/-- a question, a record, a message -/
structure Qn where
  nm : List (List UInt8)
  ty : Nat
  cl : Nat
structure Rc where
  q : Qn
  ttl : Nat
  d : List UInt8
  pr : Nat
  we : Nat
  po : Nat
  tg : List (List UInt8)
structure Ms where
  id : Nat
  fl : Nat
  qs : List Qn
  r0 : List Rc
  r1 : List Rc
  r2 : List Rc
def zQ : Qn := ⟨[], 0, 0⟩
def zR : Rc := ⟨zQ, 0, [], 0, 0, 0, []⟩
def zM : Ms := ⟨0, 0, [], [], [], []⟩
def Ms.all (m : Ms) : List Rc := m.r0 ++ (m.r1 ++ m.r2)
def Ms.num (m : Ms) : Nat := m.qs.length + m.r0.length + m.r1.length + m.r2.length
/-- a number of two bytes -/
def two (n : Nat) : List UInt8 := [UInt8.ofNat (n / 256), UInt8.ofNat n]
@[simp] theorem two_length (n : Nat) : (two n).length = 2 := rfl
def twos (l : List Nat) : List UInt8 := l.flatMap two
theorem twos_length (l : List Nat) : (twos l).length = 2 * l.length := by
  induction l with
  | nil => rfl
  | cons a l ih => rw [twos, List.flatMap_cons, List.length_append, two_length, List.length_cons, ← twos, ih]; omega
theorem twos_snoc (l : List Nat) (a : Nat) : twos (l ++ [a]) = twos l ++ two a := by simp [twos]
def rightR (r : Rc) : Bool :=
  if rightN r.q.nm = true then
    if r.q.ty = 33 then (if r.d.length = 0 then rightN r.tg else false)
    else decide (r.d.length ≤ 4096 ∧ r.pr = 0 ∧ r.we = 0 ∧ r.po = 0 ∧ r.tg.length = 0)
  else false
def rightM (m : Ms) : Bool := m.qs.all (fun q => rightN q.nm) && (m.r0.all rightR && (m.r1.all rightR && m.r2.all rightR))
/-- the reader's state -/
structure St where
  at_ : Nat
  e : Nat
def rName (b : List UInt8) (s : St) : List (List UInt8) × St := if s.e = 0 then ((readN b s.at_).1, ⟨(readN b s.at_).2.1, (readN b s.at_).2.2⟩) else ([], s)
def rTake (b : List UInt8) (n : Nat) (s : St) : List UInt8 × St :=
  if s.e = 0 then (if s.at_ + n ≤ b.length then ((b.drop s.at_).take n, ⟨s.at_ + n, 0⟩) else (List.replicate n 0, ⟨s.at_, 171⟩))
  else (List.replicate n 0, s)
def num2 (l : List UInt8) : Nat := 256 * (l.getD 0 0).toNat + (l.getD 1 0).toNat
def rNum (b : List UInt8) (s : St) : Nat × St := (num2 (rTake b 2 s).1, (rTake b 2 s).2)
def rQ (b : List UInt8) (s : St) : Qn × St :=
  let n := rName b s
  let t := rNum b n.2
  let c := rNum b t.2
  (⟨n.1, t.1, c.1⟩, c.2)
def rR (b : List UInt8) (s : St) : Rc × St :=
  let q := rQ b s
  let h := rNum b q.2
  let l := rNum b h.2
  let z := rNum b l.2
  let d := rTake b z.1 z.2
  if d.2.e ≠ 0 then (zR, d.2)
  else if q.1.ty ≠ 33 then (⟨q.1, 65536 * h.1 + l.1, d.1, 0, 0, 0, []⟩, d.2)
  else if d.1.length < 7 then (zR, ⟨d.2.at_, 172⟩)
  else
    let o := b.take d.2.at_
    let p := rNum o ⟨d.2.at_ - d.1.length, 0⟩
    let w := rNum o p.2
    let k := rNum o w.2
    let t := rName o k.2
    (⟨q.1, 65536 * h.1 + l.1, [], p.1, w.1, k.1, t.1⟩, if t.2.e ≠ 0 ∨ t.2.at_ ≠ d.2.at_ then ⟨d.2.at_, 172⟩ else d.2)
def rQs (b : List UInt8) (s : St) : Nat → List Qn × St
  | 0 => ([], s)
  | k + 1 => ((rQs b s k).1 ++ [(rQ b (rQs b s k).2).1], (rQ b (rQs b s k).2).2)
def rRs (b : List UInt8) (s : St) : Nat → List Rc × St
  | 0 => ([], s)
  | k + 1 => ((rRs b s k).1 ++ [(rR b (rRs b s k).2).1], (rR b (rRs b s k).2).2)
def hd (b : List UInt8) (i : Nat) : Nat := num2 (b.drop (2 * i))
def readM (b : List UInt8) : Ms × Nat :=
  if 4096 < b.length then (zM, 3)
  else if b.length < 12 then (zM, 171)
  else if 256 < hd b 2 + hd b 3 + hd b 4 + hd b 5 then (zM, 5)
  else
    let q := rQs b ⟨12, 0⟩ (hd b 2)
    let x := rRs b q.2 (hd b 3)
    let y := rRs b x.2 (hd b 4)
    let z := rRs b y.2 (hd b 5)
    let e := if z.2.e = 0 then (if z.2.at_ < b.length then 173 else 0) else z.2.e
    if e = 0 then (⟨hd b 0, hd b 1, q.1, x.1, y.1, z.1⟩, 0) else (zM, e)
/-- equal messages -/
def sameQ (p q : Qn) : Bool := decide (p.ty = q.ty) && (decide (p.cl = q.cl) && decide (p.nm = q.nm))
def sameR (x y : Rc) : Bool := sameQ x.q y.q && (decide (x.ttl = y.ttl) && (decide (x.d = y.d) && (decide (x.pr = y.pr) && (decide (x.we = y.we) && (decide (x.po = y.po) && decide (x.tg = y.tg))))))
def allEq {α : Type} (f : α → α → Bool) : List α → List α → Bool
  | [], [] => true
  | a :: l, b :: k => f a b && allEq f l k
  | _, _ => false
def sameM (m k : Ms) : Bool := decide (m.id = k.id) && (decide (m.fl = k.fl) && (allEq sameQ m.qs k.qs && (allEq sameR m.r0 k.r0 && (allEq sameR m.r1 k.r1 && allEq sameR m.r2 k.r2))))
/-- the answers about a name -/
def answersM (m : Ms) (n : List (List UInt8)) (ty : Nat) : List Rc := m.r0.filter fun r => decide (r.q.ty = ty) && (decide (r.q.cl = 1) && decide (r.q.nm = n))
theorem sameQ_iff (p q : Qn) : sameQ p q = true ↔ p = q := by
  cases p; cases q
  simp [sameQ, and_comm, and_assoc, and_left_comm]
theorem sameR_iff (p q : Rc) : sameR p q = true ↔ p = q := by
  cases p; cases q
  simp [sameR, sameQ_iff]
theorem allEq_iff {α : Type} (f : α → α → Bool) (hf : ∀ a b, f a b = true ↔ a = b) : ∀ l k : List α, allEq f l k = true ↔ l = k
  | [], [] => by simp [allEq]
  | [], _ :: _ => by simp [allEq]
  | _ :: _, [] => by simp [allEq]
  | a :: l, b :: k => by simp [allEq, hf, allEq_iff f hf l k]
theorem sameM_iff (m k : Ms) : sameM m k = true ↔ m = k := by
  cases m; cases k
  simp [sameM, allEq_iff _ sameQ_iff, allEq_iff _ sameR_iff]
theorem allEq_len {α : Type} (f : α → α → Bool) : ∀ l k : List α, l.length ≠ k.length → allEq f l k = false
  | [], [], h => absurd rfl h
  | [], _ :: _, _ => rfl
  | _ :: _, [], _ => rfl
  | a :: l, b :: k, h => by
    rw [allEq, allEq_len f l k (by simpa using h), Bool.and_false]
end Go.Proofs.Ytlipmlbijddopaa
