/-
  No cell of these rows narrows 'for every input' (looked for: loops, veiled, ifaces, maps, wideKeys, modest, calm, conditions, laid).
  DERIVED. THE GIVEN ROWS OF THIS SEAT. 9 by the template 'for every input the law returns true; each argument reads behind the call as it read before'; 0 by the template 'total and deterministic' (their statements: YtmhehgalfmdldaaTotals.lean).
  GIVEN WITH THE SEED: the statements are not yours to turn. If you find one false, say at which input.
  Laid BY PROGRAM, IN A SANDBOX (cutbox-rows.mjs): the forced cells as the released guide's own fill.sh prints them over the translation 889b76ebb7b20e5a… (all of the seat's roots in one cut). By AI agents, Wed Nov 11 2026. No macro, syntax, notation, axiom, sorry.
-/
import Derived.Test.YtmhehgalfmdldaaChecked
import GoSem.Claim
import GoSem.ClaimJoined
import GoSem.ClaimMapViews
import Derived.JoinedTies
import Derived.KernelRfl
namespace Go.Proofs.Ytmhehgalfmdldaa
/- THE CELL 'sum', in the pinned program and in every row, IS THE sha256 OF THE DUMP (.gsa) THAT YtmhehgalfmdldaaProg.lean LOADS. Nothing in Lean hashes anything: it is a label: what it is worth is what the hold of that sum in a sandbox is worth. -/
noncomputable def Try.pinned : Pinned := { name := "ytmhehgalfmdldaa", sum := "889b76ebb7b20e5a9674d8f303847f62bcc138350c627294464e39a6b2474b69", checked := Try.checked }
namespace Rows
def none {H : Type} : Left H := { results := [], args := [] }

/-- 'gaugerlaw17.DnsReads': WHATEVER THE INPUT: true; the input reads as it did. -/
def dnsReadsSpec : ChangeSpec := { name := "dnsReads", fn := fun _ => fun
  | [d] => { results := [.lit (.bool true)], args := [d] }
  | _ => none }
def dnsReadsRow : OpenClaim := { program := "ytmhehgalfmdldaa", sum := "889b76ebb7b20e5a9674d8f303847f62bcc138350c627294464e39a6b2474b69", func := "gauger/gaugerlaw17.DnsReads", spec := "dnsReads", unfollowed := true, recurses := true, apart := false }
def DnsReadsSaid : Prop := dnsReadsRow.holds Try.pinned (OpenSpec.ofChange dnsReadsSpec)

/-- ITS FALSE NEIGHBOUR: 'it returns false'. Refute it at one input. -/
def dnsReadsWrong : ChangeSpec := { name := "dnsReads", fn := fun _ => fun
  | [d] => { results := [.lit (.bool false)], args := [d] }
  | _ => none }
def DnsReadsWrongFalsely : Prop := dnsReadsRow.holds Try.pinned (OpenSpec.ofChange dnsReadsWrong)

/-- 'gaugerlaw17.DnsRight': WHATEVER THE INPUT: true; the input reads as it did. -/
def dnsRightSpec : ChangeSpec := { name := "dnsRight", fn := fun _ => fun
  | [d] => { results := [.lit (.bool true)], args := [d] }
  | _ => none }
def dnsRightRow : OpenClaim := { program := "ytmhehgalfmdldaa", sum := "889b76ebb7b20e5a9674d8f303847f62bcc138350c627294464e39a6b2474b69", func := "gauger/gaugerlaw17.DnsRight", spec := "dnsRight", unfollowed := true, recurses := true, apart := false }
def DnsRightSaid : Prop := dnsRightRow.holds Try.pinned (OpenSpec.ofChange dnsRightSpec)

/-- ITS FALSE NEIGHBOUR: 'it returns false'. Refute it at one input. -/
def dnsRightWrong : ChangeSpec := { name := "dnsRight", fn := fun _ => fun
  | [d] => { results := [.lit (.bool false)], args := [d] }
  | _ => none }
def DnsRightWrongFalsely : Prop := dnsRightRow.holds Try.pinned (OpenSpec.ofChange dnsRightWrong)

/-- 'gaugerlaw17.DnsQueries': WHATEVER THE INPUT: true; the input reads as it did. -/
def dnsQueriesSpec : ChangeSpec := { name := "dnsQueries", fn := fun _ => fun
  | [d1, d2, d3, d4] => { results := [.lit (.bool true)], args := [d1, d2, d3, d4] }
  | _ => none }
def dnsQueriesRow : OpenClaim := { program := "ytmhehgalfmdldaa", sum := "889b76ebb7b20e5a9674d8f303847f62bcc138350c627294464e39a6b2474b69", func := "gauger/gaugerlaw17.DnsQueries", spec := "dnsQueries", unfollowed := true, recurses := true, apart := false }
def DnsQueriesSaid : Prop := dnsQueriesRow.holds Try.pinned (OpenSpec.ofChange dnsQueriesSpec)

/-- ITS FALSE NEIGHBOUR: 'it returns false'. Refute it at one input. -/
def dnsQueriesWrong : ChangeSpec := { name := "dnsQueries", fn := fun _ => fun
  | [d1, d2, d3, d4] => { results := [.lit (.bool false)], args := [d1, d2, d3, d4] }
  | _ => none }
def DnsQueriesWrongFalsely : Prop := dnsQueriesRow.holds Try.pinned (OpenSpec.ofChange dnsQueriesWrong)

/-- 'gaugerlaw17.DnsAnswers': WHATEVER THE INPUT: true; the input reads as it did. -/
def dnsAnswersSpec : ChangeSpec := { name := "dnsAnswers", fn := fun _ => fun
  | [d1, d2, d3, d4, d5] => { results := [.lit (.bool true)], args := [d1, d2, d3, d4, d5] }
  | _ => none }
def dnsAnswersRow : OpenClaim := { program := "ytmhehgalfmdldaa", sum := "889b76ebb7b20e5a9674d8f303847f62bcc138350c627294464e39a6b2474b69", func := "gauger/gaugerlaw17.DnsAnswers", spec := "dnsAnswers", unfollowed := true, recurses := true, apart := false }
def DnsAnswersSaid : Prop := dnsAnswersRow.holds Try.pinned (OpenSpec.ofChange dnsAnswersSpec)

/-- ITS FALSE NEIGHBOUR: 'it returns false'. Refute it at one input. -/
def dnsAnswersWrong : ChangeSpec := { name := "dnsAnswers", fn := fun _ => fun
  | [d1, d2, d3, d4, d5] => { results := [.lit (.bool false)], args := [d1, d2, d3, d4, d5] }
  | _ => none }
def DnsAnswersWrongFalsely : Prop := dnsAnswersRow.holds Try.pinned (OpenSpec.ofChange dnsAnswersWrong)

/-- 'gaugerlaw17.DnsLists': WHATEVER THE INPUT: true; the input reads as it did. -/
def dnsListsSpec : ChangeSpec := { name := "dnsLists", fn := fun _ => fun
  | [d1, d2, d3, d4] => { results := [.lit (.bool true)], args := [d1, d2, d3, d4] }
  | _ => none }
def dnsListsRow : OpenClaim := { program := "ytmhehgalfmdldaa", sum := "889b76ebb7b20e5a9674d8f303847f62bcc138350c627294464e39a6b2474b69", func := "gauger/gaugerlaw17.DnsLists", spec := "dnsLists", unfollowed := true, recurses := true, apart := false }
def DnsListsSaid : Prop := dnsListsRow.holds Try.pinned (OpenSpec.ofChange dnsListsSpec)

/-- ITS FALSE NEIGHBOUR: 'it returns false'. Refute it at one input. -/
def dnsListsWrong : ChangeSpec := { name := "dnsLists", fn := fun _ => fun
  | [d1, d2, d3, d4] => { results := [.lit (.bool false)], args := [d1, d2, d3, d4] }
  | _ => none }
def DnsListsWrongFalsely : Prop := dnsListsRow.holds Try.pinned (OpenSpec.ofChange dnsListsWrong)

/-- 'gaugerlaw17.DnsWrites': WHATEVER THE INPUT: true; the input reads as it did. -/
def dnsWritesSpec : ChangeSpec := { name := "dnsWrites", fn := fun _ => fun
  | [d1, d2, d3, d4] => { results := [.lit (.bool true)], args := [d1, d2, d3, d4] }
  | _ => none }
def dnsWritesRow : OpenClaim := { program := "ytmhehgalfmdldaa", sum := "889b76ebb7b20e5a9674d8f303847f62bcc138350c627294464e39a6b2474b69", func := "gauger/gaugerlaw17.DnsWrites", spec := "dnsWrites", unfollowed := true, recurses := true, apart := false }
def DnsWritesSaid : Prop := dnsWritesRow.holds Try.pinned (OpenSpec.ofChange dnsWritesSpec)

/-- ITS FALSE NEIGHBOUR: 'it returns false'. Refute it at one input. -/
def dnsWritesWrong : ChangeSpec := { name := "dnsWrites", fn := fun _ => fun
  | [d1, d2, d3, d4] => { results := [.lit (.bool false)], args := [d1, d2, d3, d4] }
  | _ => none }
def DnsWritesWrongFalsely : Prop := dnsWritesRow.holds Try.pinned (OpenSpec.ofChange dnsWritesWrong)

/-- 'gaugerlaw17.DnsSmall': WHATEVER THE INPUT: true; the input reads as it did. -/
def dnsSmallSpec : ChangeSpec := { name := "dnsSmall", fn := fun _ => fun
  | [] => { results := [.lit (.bool true)], args := [] }
  | _ => none }
def dnsSmallRow : OpenClaim := { program := "ytmhehgalfmdldaa", sum := "889b76ebb7b20e5a9674d8f303847f62bcc138350c627294464e39a6b2474b69", func := "gauger/gaugerlaw17.DnsSmall", spec := "dnsSmall", unfollowed := true, recurses := true, apart := false }
def DnsSmallSaid : Prop := dnsSmallRow.holds Try.pinned (OpenSpec.ofChange dnsSmallSpec)

/-- ITS FALSE NEIGHBOUR: 'it returns false'. Refute it at one input. -/
def dnsSmallWrong : ChangeSpec := { name := "dnsSmall", fn := fun _ => fun
  | [] => { results := [.lit (.bool false)], args := [] }
  | _ => none }
def DnsSmallWrongFalsely : Prop := dnsSmallRow.holds Try.pinned (OpenSpec.ofChange dnsSmallWrong)

/-- 'gaugerlaw17.DnsBack': WHATEVER THE INPUT: true; the input reads as it did. -/
def dnsBackSpec : ChangeSpec := { name := "dnsBack", fn := fun _ => fun
  | [d1, d2, d3, d4, d5, d6] => { results := [.lit (.bool true)], args := [d1, d2, d3, d4, d5, d6] }
  | _ => none }
def dnsBackRow : OpenClaim := { program := "ytmhehgalfmdldaa", sum := "889b76ebb7b20e5a9674d8f303847f62bcc138350c627294464e39a6b2474b69", func := "gauger/gaugerlaw17.DnsBack", spec := "dnsBack", unfollowed := true, recurses := true, apart := false }
def DnsBackSaid : Prop := dnsBackRow.holds Try.pinned (OpenSpec.ofChange dnsBackSpec)

/-- ITS FALSE NEIGHBOUR: 'it returns false'. Refute it at one input. -/
def dnsBackWrong : ChangeSpec := { name := "dnsBack", fn := fun _ => fun
  | [d1, d2, d3, d4, d5, d6] => { results := [.lit (.bool false)], args := [d1, d2, d3, d4, d5, d6] }
  | _ => none }
def DnsBackWrongFalsely : Prop := dnsBackRow.holds Try.pinned (OpenSpec.ofChange dnsBackWrong)

/-- 'gaugerlaw17.DnsWrong': WHATEVER THE INPUT: true; the input reads as it did. -/
def dnsWrongSpec : ChangeSpec := { name := "dnsWrong", fn := fun _ => fun
  | [d1, d2, d3, d4, d5] => { results := [.lit (.bool true)], args := [d1, d2, d3, d4, d5] }
  | _ => none }
def dnsWrongRow : OpenClaim := { program := "ytmhehgalfmdldaa", sum := "889b76ebb7b20e5a9674d8f303847f62bcc138350c627294464e39a6b2474b69", func := "gauger/gaugerlaw17.DnsWrong", spec := "dnsWrong", unfollowed := true, recurses := true, apart := false }
def DnsWrongSaid : Prop := dnsWrongRow.holds Try.pinned (OpenSpec.ofChange dnsWrongSpec)

/-- ITS FALSE NEIGHBOUR: 'it returns false'. Refute it at one input. -/
def dnsWrongWrong : ChangeSpec := { name := "dnsWrong", fn := fun _ => fun
  | [d1, d2, d3, d4, d5] => { results := [.lit (.bool false)], args := [d1, d2, d3, d4, d5] }
  | _ => none }
def DnsWrongWrongFalsely : Prop := dnsWrongRow.holds Try.pinned (OpenSpec.ofChange dnsWrongWrong)

/- THE SECOND FORM. 'bulk': how many values and letters a reading holds, each counted each time it is reached (what is shared counts as often as it is met; a slice's spare places count too). A statement '..UptoSaid' is the law's where the arguments, and the package variables that the reading takes, are together of bulk at most 1048576: NARROWER than '..Said'. Prove '..Said' where nothing that the law and all that it calls make is longer than what came in: it says more and counts as full. Else prove '..UptoSaid'. A law counts once. -/
mutual
def uptoBulk {H : Type} : DataW H → Nat
  | .lit (.string bytes) => bytes.length + 1
  | .lit _ => 1
  | .nil => 1
  | .ptr d => uptoBulk d + 1
  | .slice elems spare => uptoBulkAll elems + uptoBulkAll spare + 1
  | .agg parts => uptoBulkAll parts + 1
  | .iface _ d => uptoBulk d + 1
  | .map entries => uptoBulkEntries entries + 1
  | .held _ => 1
def uptoBulkAll {H : Type} : List (DataW H) → Nat
  | [] => 0
  | d :: r => uptoBulk d + uptoBulkAll r
def uptoBulkEntries {H : Type} : List (Lit × DataW H) → Nat
  | [] => 0
  | x :: r => uptoBulkEntry x + uptoBulkEntries r
def uptoBulkEntry {H : Type} : Lit × DataW H → Nat
  | (.string bytes, d) => bytes.length + uptoBulk d + 1
  | (_, d) => uptoBulk d + 1
 end
def uptoSmall : (H : Type) → List (DataW H) → Bool := fun _ ds => decide (uptoBulkAll ds ≤ 1048576)
def OpenSpec.upto (s : _root_.Go.ChangeSpec) : _root_.Go.OpenSpec := { _root_.Go.OpenSpec.ofChange s with cond := some uptoSmall }

/-- 'gaugerlaw17.DnsReads', WHERE WHAT IT READS IS OF BULK AT MOST 1048576: true; the input reads as it did. -/
def dnsReadsUptoRow : OpenClaim := { program := "ytmhehgalfmdldaa", sum := "889b76ebb7b20e5a9674d8f303847f62bcc138350c627294464e39a6b2474b69", func := "gauger/gaugerlaw17.DnsReads", spec := "dnsReads", unfollowed := true, recurses := true, apart := false, narrowed := true }
def DnsReadsUptoSaid : Prop := dnsReadsUptoRow.holds Try.pinned (OpenSpec.upto dnsReadsSpec)

/-- 'gaugerlaw17.DnsRight', WHERE WHAT IT READS IS OF BULK AT MOST 1048576: true; the input reads as it did. -/
def dnsRightUptoRow : OpenClaim := { program := "ytmhehgalfmdldaa", sum := "889b76ebb7b20e5a9674d8f303847f62bcc138350c627294464e39a6b2474b69", func := "gauger/gaugerlaw17.DnsRight", spec := "dnsRight", unfollowed := true, recurses := true, apart := false, narrowed := true }
def DnsRightUptoSaid : Prop := dnsRightUptoRow.holds Try.pinned (OpenSpec.upto dnsRightSpec)

/-- 'gaugerlaw17.DnsQueries', WHERE WHAT IT READS IS OF BULK AT MOST 1048576: true; the input reads as it did. -/
def dnsQueriesUptoRow : OpenClaim := { program := "ytmhehgalfmdldaa", sum := "889b76ebb7b20e5a9674d8f303847f62bcc138350c627294464e39a6b2474b69", func := "gauger/gaugerlaw17.DnsQueries", spec := "dnsQueries", unfollowed := true, recurses := true, apart := false, narrowed := true }
def DnsQueriesUptoSaid : Prop := dnsQueriesUptoRow.holds Try.pinned (OpenSpec.upto dnsQueriesSpec)

/-- 'gaugerlaw17.DnsAnswers', WHERE WHAT IT READS IS OF BULK AT MOST 1048576: true; the input reads as it did. -/
def dnsAnswersUptoRow : OpenClaim := { program := "ytmhehgalfmdldaa", sum := "889b76ebb7b20e5a9674d8f303847f62bcc138350c627294464e39a6b2474b69", func := "gauger/gaugerlaw17.DnsAnswers", spec := "dnsAnswers", unfollowed := true, recurses := true, apart := false, narrowed := true }
def DnsAnswersUptoSaid : Prop := dnsAnswersUptoRow.holds Try.pinned (OpenSpec.upto dnsAnswersSpec)

/-- 'gaugerlaw17.DnsLists', WHERE WHAT IT READS IS OF BULK AT MOST 1048576: true; the input reads as it did. -/
def dnsListsUptoRow : OpenClaim := { program := "ytmhehgalfmdldaa", sum := "889b76ebb7b20e5a9674d8f303847f62bcc138350c627294464e39a6b2474b69", func := "gauger/gaugerlaw17.DnsLists", spec := "dnsLists", unfollowed := true, recurses := true, apart := false, narrowed := true }
def DnsListsUptoSaid : Prop := dnsListsUptoRow.holds Try.pinned (OpenSpec.upto dnsListsSpec)

/-- 'gaugerlaw17.DnsWrites', WHERE WHAT IT READS IS OF BULK AT MOST 1048576: true; the input reads as it did. -/
def dnsWritesUptoRow : OpenClaim := { program := "ytmhehgalfmdldaa", sum := "889b76ebb7b20e5a9674d8f303847f62bcc138350c627294464e39a6b2474b69", func := "gauger/gaugerlaw17.DnsWrites", spec := "dnsWrites", unfollowed := true, recurses := true, apart := false, narrowed := true }
def DnsWritesUptoSaid : Prop := dnsWritesUptoRow.holds Try.pinned (OpenSpec.upto dnsWritesSpec)

/-- 'gaugerlaw17.DnsSmall', WHERE WHAT IT READS IS OF BULK AT MOST 1048576: true; the input reads as it did. -/
def dnsSmallUptoRow : OpenClaim := { program := "ytmhehgalfmdldaa", sum := "889b76ebb7b20e5a9674d8f303847f62bcc138350c627294464e39a6b2474b69", func := "gauger/gaugerlaw17.DnsSmall", spec := "dnsSmall", unfollowed := true, recurses := true, apart := false, narrowed := true }
def DnsSmallUptoSaid : Prop := dnsSmallUptoRow.holds Try.pinned (OpenSpec.upto dnsSmallSpec)

/-- 'gaugerlaw17.DnsBack', WHERE WHAT IT READS IS OF BULK AT MOST 1048576: true; the input reads as it did. -/
def dnsBackUptoRow : OpenClaim := { program := "ytmhehgalfmdldaa", sum := "889b76ebb7b20e5a9674d8f303847f62bcc138350c627294464e39a6b2474b69", func := "gauger/gaugerlaw17.DnsBack", spec := "dnsBack", unfollowed := true, recurses := true, apart := false, narrowed := true }
def DnsBackUptoSaid : Prop := dnsBackUptoRow.holds Try.pinned (OpenSpec.upto dnsBackSpec)

/-- 'gaugerlaw17.DnsWrong', WHERE WHAT IT READS IS OF BULK AT MOST 1048576: true; the input reads as it did. -/
def dnsWrongUptoRow : OpenClaim := { program := "ytmhehgalfmdldaa", sum := "889b76ebb7b20e5a9674d8f303847f62bcc138350c627294464e39a6b2474b69", func := "gauger/gaugerlaw17.DnsWrong", spec := "dnsWrong", unfollowed := true, recurses := true, apart := false, narrowed := true }
def DnsWrongUptoSaid : Prop := dnsWrongUptoRow.holds Try.pinned (OpenSpec.upto dnsWrongSpec)

end Rows
end Go.Proofs.Ytmhehgalfmdldaa
