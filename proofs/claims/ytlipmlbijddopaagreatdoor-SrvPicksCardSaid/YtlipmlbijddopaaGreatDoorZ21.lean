/-
  DnsSp
-/
import Derived.Deep.RegionLaw
import Derived.Test.YtlipmlbijddopaaGreatDoorZ19
import Derived.Test.YtlipmlbijddopaaGreatDoorZ13
import Derived.Test.YtlipmlbijddopaaGreatDoorZ20
set_option linter.unusedVariables false
set_option linter.unusedSimpArgs false
namespace Go.Proofs.YtlipmlbijddopaaGreatDoor
open Go.RowKit
/-- the offset that the reference returns -/
def nxS (s : St) : Nat := if s.e = 0 then s.at_ else 0
section
variable {w w' : World} {g : Nat} {e : TypeId} {cs : List Value}
end
abbrev zQ3 : List Value := [.slice none 0 0, .int .u16 0, .int .u16 0]
def zQR : QR := ⟨none, 0, zQ⟩
open Go.RowKit
/-- bytes as a number, the first ones first -/
def beN (l : List UInt8) : Nat → Nat
  | 0 => 0
  | k + 1 => 256 * beN l k + (l.getD k 0).toNat
/-- where the reading of a record stands: the result's block, the question's, the record's -/
structure RfX (w0 w : World) (Q X : Nat) (q : QR) (x : RR) : Prop where
  vr : Vx w w0.heap.size 42 zRR.cells
  vq : Vx w Q 40 q.cells
  vx : Vx w X 42 x.cells
  bl : Below w0.heap.size w0 w
  lo : w0.heap.size < Q ∧ Q < X
  ow : ROw w (w0.heap.size + 1) X x
section
variable {w0 w w' : World} {Q X : Nat} {q : QR} {x x' : RR}
end
/-- the value that the reference hands back -/
def rfOk (z : Rc × St) (r : Rc) : Prop := (z.2.e = 0 → r = z.1) ∧ (z.2.e ≠ 0 → r = zR)
open Go.RowKit
def rwQf (A : Option Addr) (c : Nat) (l : List QR) : Ob := ⟨40, 3, .slice A l.length c, l.length, qcs l⟩
def rwRf (A : Option Addr) (c : Nat) (l : List RR) : Ob := ⟨42, 9, .slice A l.length c, l.length, rcs l⟩
/-- all of a message of the reference is of the call's own -/
structure MOwF (w : World) (base : Nat) (x : MR) : Prop where
  q : (rwQf x.qA x.qc x.qs).ok w base
  a : (rwRf x.aA x.ac x.r0).ok w base
  b : (rwRf x.bA x.bc x.r1).ok w base
  c : (rwRf x.cA x.cc x.r2).ok w base
  n : ∀ o, DQ x.qs o → o.ok w base
  r0 : ∀ o, DR x.r0 o → o.ok w base
  r1 : ∀ o, DR x.r1 o → o.ok w base
  r2 : ∀ o, DR x.r2 o → o.ok w base
/-- the heads that are read already -/
def hcs (b : List UInt8) (k : Nat) : List Value := (List.range 6).map fun j => if j < k then .int .u16 (hd b j : Int) else .int .u16 0
def smH (b : List UInt8) : Nat → Nat
  | 0 => 0
  | k + 1 => if 1 < k then smH b k + hd b k else smH b k
/-- where the reading of a message stands: the result's block, the heads', the message's -/
structure RfM (w0 w : World) (H M base : Nat) (mc hc : List Value) : Prop where
  vr : Vx w w0.heap.size 47 zM6
  vh : Vx w H 201 hc
  vm : Vx w M 47 mc
  bl : Below w0.heap.size w0 w
  lo : w0.heap.size < H ∧ H < M
  hi : M < base ∧ base ≤ w.heap.size
section
variable {w0 w w' : World} {H M base : Nat} {mc hc : List Value}
end
/-- the length of the slice that lies in a cell -/
def lenAt (w : World) (g k : Nat) : Nat := match w.cell? ⟨g, k, none⟩ with | some (.slice _ n _) => n | _ => 0
open Go.RowKit
open Go.RowKit
/-- where the turning stands: the argument's block, the result's, the message's -/
structure Tf (w0 w : World) (R M base : Nat) (bx mc : List Value) : Prop where
section
variable {w0 w w' : World} {R M base : Nat} {bx mc : List Value}
end
/-- names that can be copied -/
def Cpy (x : MR) : Prop := (∀ q ∈ x.qs, q.q.nm.length * 16 ≤ 140737488351232) ∧ ∀ i, ∀ r ∈ x.rl i, r.r.q.nm.length * 16 ≤ 140737488351232 ∧ r.r.tg.length * 16 ≤ 140737488351232
open Go.RowKit
/-- strings and bytes of blocks from B on were written -/
structure Spo (B : Nat) (w w' : World) : Prop where
/-- room for n strings, and n bytes, from block B on -/
def TS (w : World) (B : Nat) (A : Option Addr) (n : Nat) : Prop := 0 < n → ∃ (g : Nat) (cs : Array Value), A = some ⟨g, 0, none⟩ ∧ B ≤ g ∧ w.heap[g]? = some (Obj.cells cs 9 (0, 0)) ∧ n ≤ cs.size
def TU (w : World) (B : Nat) (A : Option Addr) (n : Nat) : Prop := 0 < n → ∃ (g : Nat) (cs : Array Value), A = some ⟨g, 0, none⟩ ∧ B ≤ g ∧ w.heap[g]? = some (Obj.cells cs 5 (0, 0)) ∧ ∀ k, k < n → ∃ z : Nat, z < 256 ∧ cs[k]? = some (.int .u8 (z : Int))
end Go.Proofs.YtlipmlbijddopaaGreatDoor
