/-
  The messages of RFC 1035 in plain Lean: what is written.
-/
import Derived.Test.YtlipmlbijddopaaDnsT
import Derived.Test.YtlipmlbijddopaaAppend
set_option linter.unusedVariables false
set_option linter.unusedSimpArgs false
namespace Go.Proofs.Ytlipmlbijddopaa
open Go.RowKit
/-- what has been written, and where its names begin -/
abbrev Wr := List UInt8 × List Int
def askB (s : Wr) (q : Qn) : Wr := (appN s.1 s.2 q.nm ++ two q.ty ++ two q.cl, s.2 ++ [(s.1.length : Int)])
def dataR (r : Rc) : List UInt8 := if r.q.ty = 33 then two r.pr ++ two r.we ++ two r.po ++ formN r.tg else r.d
def recB (s : Wr) (r : Rc) : Wr := ((askB s r.q).1 ++ twos [r.ttl / 65536, r.ttl % 65536, (dataR r).length] ++ dataR r, (askB s r.q).2)
def headB (m : Ms) : List UInt8 := twos [m.id, m.fl, m.qs.length, m.r0.length, m.r1.length, m.r2.length]
def qsB (s : Wr) (l : List Qn) : Wr := l.foldl askB s
def rsB (s : Wr) (l : List Rc) : Wr := l.foldl recB s
def bodyB (m : Ms) : Wr := rsB (rsB (rsB (qsB (headB m, []) m.qs) m.r0) m.r1) m.r2
def formM (m : Ms) : List UInt8 := (bodyB m).1
def writeM (m : Ms) : List UInt8 × Nat :=
  if rightM m = false then ([], 170)
  else if 256 < m.num then ([], 5)
  else if 4096 < (formM m).length then ([], 3)
  else (formM m, 0)
/-- only appended to -/
theorem qsB_take (s : Wr) (l : List Qn) (k : Nat) (h : k < l.length) : qsB s (l.take (k + 1)) = askB (qsB s (l.take k)) l[k] := by
  unfold qsB; rw [List.take_succ_eq_append_getElem h, List.foldl_append]; rfl
theorem rsB_take (s : Wr) (l : List Rc) (k : Nat) (h : k < l.length) : rsB s (l.take (k + 1)) = recB (rsB s (l.take k)) l[k] := by
  unfold rsB; rw [List.take_succ_eq_append_getElem h, List.foldl_append]; rfl
end Go.Proofs.Ytlipmlbijddopaa
