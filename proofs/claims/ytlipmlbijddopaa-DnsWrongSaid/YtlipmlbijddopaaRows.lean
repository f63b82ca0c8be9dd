/-
  No cell of these rows narrows 'for every input' (looked for: loops, veiled, ifaces, maps, wideKeys, modest, calm, conditions, laid).
  DERIVED. THE GIVEN ROWS OF THIS SEAT. 2 by the template 'for every input the law returns true; each argument reads behind the call as it read before'; 0 by the template 'total and deterministic' (their statements: YtlipmlbijddopaaTotals.lean).
  GIVEN WITH THE SEED: the statements are not yours to turn. If you find one false, say at which input.
  Laid BY PROGRAM, IN A SANDBOX (cutbox-rows.mjs): the forced cells as the released guide's own fill.sh prints them over the translation 41d426d734483464… (all of the seat's roots in one cut). By AI agents, Wed Nov 11 2026. No macro, syntax, notation, axiom, sorry.
-/
import Derived.Test.YtlipmlbijddopaaChecked
import GoSem.Claim
import GoSem.ClaimJoined
import GoSem.ClaimMapViews
import Derived.JoinedTies
import Derived.KernelRfl
namespace Go.Proofs.Ytlipmlbijddopaa
/- THE CELL 'sum', in the pinned program and in every row, IS THE sha256 OF THE DUMP (.gsa) THAT YtlipmlbijddopaaProg.lean LOADS. Nothing in Lean hashes anything: it is a label: what it is worth is what the hold of that sum in a sandbox is worth. -/
noncomputable def Try.pinned : Pinned := { name := "ytlipmlbijddopaa", sum := "41d426d734483464868a765b834f1203f95402af171411b6967c54a54eb315f3", checked := Try.checked }
namespace Rows
def none {H : Type} : Left H := { results := [], args := [] }

/-- 'gaugerlaw17.DnsSmall': WHATEVER THE INPUT: true; the input reads as it did. -/
def dnsSmallSpec : ChangeSpec := { name := "dnsSmall", fn := fun _ => fun
  | [] => { results := [.lit (.bool true)], args := [] }
  | _ => none }
def dnsSmallRow : OpenClaim := { program := "ytlipmlbijddopaa", sum := "41d426d734483464868a765b834f1203f95402af171411b6967c54a54eb315f3", func := "gauger/gaugerlaw17.DnsSmall", spec := "dnsSmall", unfollowed := true, recurses := true, apart := false }
def DnsSmallSaid : Prop := dnsSmallRow.holds Try.pinned (OpenSpec.ofChange dnsSmallSpec)

/-- ITS FALSE NEIGHBOUR: 'it returns false'. Refute it at one input. -/
def dnsSmallWrong : ChangeSpec := { name := "dnsSmall", fn := fun _ => fun
  | [] => { results := [.lit (.bool false)], args := [] }
  | _ => none }
def DnsSmallWrongFalsely : Prop := dnsSmallRow.holds Try.pinned (OpenSpec.ofChange dnsSmallWrong)

/-- 'gaugerlaw17.DnsWrong': WHATEVER THE INPUT: true; the input reads as it did. -/
def dnsWrongSpec : ChangeSpec := { name := "dnsWrong", fn := fun _ => fun
  | [d1, d2, d3, d4, d5] => { results := [.lit (.bool true)], args := [d1, d2, d3, d4, d5] }
  | _ => none }
def dnsWrongRow : OpenClaim := { program := "ytlipmlbijddopaa", sum := "41d426d734483464868a765b834f1203f95402af171411b6967c54a54eb315f3", func := "gauger/gaugerlaw17.DnsWrong", spec := "dnsWrong", unfollowed := true, recurses := true, apart := false }
def DnsWrongSaid : Prop := dnsWrongRow.holds Try.pinned (OpenSpec.ofChange dnsWrongSpec)

/-- ITS FALSE NEIGHBOUR: 'it returns false'. Refute it at one input. -/
def dnsWrongWrong : ChangeSpec := { name := "dnsWrong", fn := fun _ => fun
  | [d1, d2, d3, d4, d5] => { results := [.lit (.bool false)], args := [d1, d2, d3, d4, d5] }
  | _ => none }
def DnsWrongWrongFalsely : Prop := dnsWrongRow.holds Try.pinned (OpenSpec.ofChange dnsWrongWrong)

/- THE SECOND FORM. 'bulk': how many values and letters a reading holds, each counted each time it is reached (what is shared counts as often as it is met; a slice's spare places count too). A statement '..UptoSaid' is the law's where the arguments, and the package variables that the reading takes, are together of bulk at most 1048576: NARROWER than '..Said'. Prove '..Said' where nothing that the law and all that it calls make is longer than what came in: it says more and counts as full. Else prove '..UptoSaid'. A law counts once. -/
mutual
def uptoBulk {H : Type} : DataW H → Nat
  | .lit (.string bytes) => bytes.length + 1
  | .lit _ => 1
  | .nil => 1
  | .ptr d => uptoBulk d + 1
  | .slice elems spare => uptoBulkAll elems + uptoBulkAll spare + 1
  | .agg parts => uptoBulkAll parts + 1
  | .iface _ d => uptoBulk d + 1
  | .map entries => uptoBulkEntries entries + 1
  | .held _ => 1
def uptoBulkAll {H : Type} : List (DataW H) → Nat
  | [] => 0
  | d :: r => uptoBulk d + uptoBulkAll r
def uptoBulkEntries {H : Type} : List (Lit × DataW H) → Nat
  | [] => 0
  | x :: r => uptoBulkEntry x + uptoBulkEntries r
def uptoBulkEntry {H : Type} : Lit × DataW H → Nat
  | (.string bytes, d) => bytes.length + uptoBulk d + 1
  | (_, d) => uptoBulk d + 1
 end
def uptoSmall : (H : Type) → List (DataW H) → Bool := fun _ ds => decide (uptoBulkAll ds ≤ 1048576)
def OpenSpec.upto (s : _root_.Go.ChangeSpec) : _root_.Go.OpenSpec := { _root_.Go.OpenSpec.ofChange s with cond := some uptoSmall }

/-- 'gaugerlaw17.DnsSmall', WHERE WHAT IT READS IS OF BULK AT MOST 1048576: true; the input reads as it did. -/
def dnsSmallUptoRow : OpenClaim := { program := "ytlipmlbijddopaa", sum := "41d426d734483464868a765b834f1203f95402af171411b6967c54a54eb315f3", func := "gauger/gaugerlaw17.DnsSmall", spec := "dnsSmall", unfollowed := true, recurses := true, apart := false, narrowed := true }
def DnsSmallUptoSaid : Prop := dnsSmallUptoRow.holds Try.pinned (OpenSpec.upto dnsSmallSpec)

/-- 'gaugerlaw17.DnsWrong', WHERE WHAT IT READS IS OF BULK AT MOST 1048576: true; the input reads as it did. -/
def dnsWrongUptoRow : OpenClaim := { program := "ytlipmlbijddopaa", sum := "41d426d734483464868a765b834f1203f95402af171411b6967c54a54eb315f3", func := "gauger/gaugerlaw17.DnsWrong", spec := "dnsWrong", unfollowed := true, recurses := true, apart := false, narrowed := true }
def DnsWrongUptoSaid : Prop := dnsWrongUptoRow.holds Try.pinned (OpenSpec.upto dnsWrongSpec)

end Rows
end Go.Proofs.Ytlipmlbijddopaa
