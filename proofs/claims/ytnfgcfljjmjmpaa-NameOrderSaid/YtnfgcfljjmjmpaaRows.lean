/-
  No cell of these rows narrows 'for every input' (looked for: loops, veiled, ifaces, maps, wideKeys, modest, calm, conditions, laid).
  DERIVED. THE GIVEN ROWS OF THIS SEAT. 8 by the template 'for every input the law returns true; each argument reads behind the call as it read before'; 0 by the template 'total and deterministic' (their statements: YtnfgcfljjmjmpaaTotals.lean).
  GIVEN WITH THE SEED: the statements are not yours to turn. If you find one false, say at which input.
  Laid BY PROGRAM, IN A SANDBOX (cutbox-rows.mjs): the forced cells as the released guide's own fill.sh prints them over the translation 4365b2cbbbffcbc1… (all of the seat's roots in one cut). By AI agents, Wed Nov 11 2026. No macro, syntax, notation, axiom, sorry.
-/
import Derived.Test.YtnfgcfljjmjmpaaChecked
import GoSem.Claim
import GoSem.ClaimJoined
import GoSem.ClaimMapViews
import Derived.JoinedTies
import Derived.KernelRfl
namespace Go.Proofs.Ytnfgcfljjmjmpaa
/- THE CELL 'sum', in the pinned program and in every row, IS THE sha256 OF THE DUMP (.gsa) THAT YtnfgcfljjmjmpaaProg.lean LOADS. Nothing in Lean hashes anything: it is a label: what it is worth is what the hold of that sum in a sandbox is worth. -/
noncomputable def Try.pinned : Pinned := { name := "ytnfgcfljjmjmpaa", sum := "4365b2cbbbffcbc1d80fa32621d0223194a04fb0f03f4b2b6a4196b2e340f105", checked := Try.checked }
namespace Rows
def none {H : Type} : Left H := { results := [], args := [] }

/-- 'gaugerlaw16.NameEnds': WHATEVER THE INPUT: true; the input reads as it did. -/
def nameEndsSpec : ChangeSpec := { name := "nameEnds", fn := fun _ => fun
  | [d1, d2, d3] => { results := [.lit (.bool true)], args := [d1, d2, d3] }
  | _ => none }
def nameEndsRow : OpenClaim := { program := "ytnfgcfljjmjmpaa", sum := "4365b2cbbbffcbc1d80fa32621d0223194a04fb0f03f4b2b6a4196b2e340f105", func := "gauger/gaugerlaw16.NameEnds", spec := "nameEnds", inPlace := ["internal/abi.NoEscape", "internal/bytealg.abigen_runtime_cmpstring"], unfollowed := true, recurses := true, apart := false }
def NameEndsSaid : Prop := nameEndsRow.holds Try.pinned (OpenSpec.ofChange nameEndsSpec)

/-- ITS FALSE NEIGHBOUR: 'it returns false'. Refute it at one input. -/
def nameEndsWrong : ChangeSpec := { name := "nameEnds", fn := fun _ => fun
  | [d1, d2, d3] => { results := [.lit (.bool false)], args := [d1, d2, d3] }
  | _ => none }
def NameEndsWrongFalsely : Prop := nameEndsRow.holds Try.pinned (OpenSpec.ofChange nameEndsWrong)

/-- 'gaugerlaw16.NameJoins': WHATEVER THE INPUT: true; the input reads as it did. -/
def nameJoinsSpec : ChangeSpec := { name := "nameJoins", fn := fun _ => fun
  | [d1, d2] => { results := [.lit (.bool true)], args := [d1, d2] }
  | _ => none }
def nameJoinsRow : OpenClaim := { program := "ytnfgcfljjmjmpaa", sum := "4365b2cbbbffcbc1d80fa32621d0223194a04fb0f03f4b2b6a4196b2e340f105", func := "gauger/gaugerlaw16.NameJoins", spec := "nameJoins", inPlace := ["internal/abi.NoEscape", "internal/bytealg.abigen_runtime_cmpstring"], unfollowed := true, recurses := true, apart := false }
def NameJoinsSaid : Prop := nameJoinsRow.holds Try.pinned (OpenSpec.ofChange nameJoinsSpec)

/-- ITS FALSE NEIGHBOUR: 'it returns false'. Refute it at one input. -/
def nameJoinsWrong : ChangeSpec := { name := "nameJoins", fn := fun _ => fun
  | [d1, d2] => { results := [.lit (.bool false)], args := [d1, d2] }
  | _ => none }
def NameJoinsWrongFalsely : Prop := nameJoinsRow.holds Try.pinned (OpenSpec.ofChange nameJoinsWrong)

/-- 'gaugerlaw16.NameReads': WHATEVER THE INPUT: true; the input reads as it did. -/
def nameReadsSpec : ChangeSpec := { name := "nameReads", fn := fun _ => fun
  | [d1, d2] => { results := [.lit (.bool true)], args := [d1, d2] }
  | _ => none }
def nameReadsRow : OpenClaim := { program := "ytnfgcfljjmjmpaa", sum := "4365b2cbbbffcbc1d80fa32621d0223194a04fb0f03f4b2b6a4196b2e340f105", func := "gauger/gaugerlaw16.NameReads", spec := "nameReads", inPlace := ["internal/abi.NoEscape", "internal/bytealg.abigen_runtime_cmpstring"], unfollowed := true, recurses := true, apart := false }
def NameReadsSaid : Prop := nameReadsRow.holds Try.pinned (OpenSpec.ofChange nameReadsSpec)

/-- ITS FALSE NEIGHBOUR: 'it returns false'. Refute it at one input. -/
def nameReadsWrong : ChangeSpec := { name := "nameReads", fn := fun _ => fun
  | [d1, d2] => { results := [.lit (.bool false)], args := [d1, d2] }
  | _ => none }
def NameReadsWrongFalsely : Prop := nameReadsRow.holds Try.pinned (OpenSpec.ofChange nameReadsWrong)

/-- 'gaugerlaw16.NameBack': WHATEVER THE INPUT: true; the input reads as it did. -/
def nameBackSpec : ChangeSpec := { name := "nameBack", fn := fun _ => fun
  | [d1, d2] => { results := [.lit (.bool true)], args := [d1, d2] }
  | _ => none }
def nameBackRow : OpenClaim := { program := "ytnfgcfljjmjmpaa", sum := "4365b2cbbbffcbc1d80fa32621d0223194a04fb0f03f4b2b6a4196b2e340f105", func := "gauger/gaugerlaw16.NameBack", spec := "nameBack", inPlace := ["internal/abi.NoEscape", "internal/bytealg.abigen_runtime_cmpstring"], unfollowed := true, recurses := true, apart := false }
def NameBackSaid : Prop := nameBackRow.holds Try.pinned (OpenSpec.ofChange nameBackSpec)

/-- ITS FALSE NEIGHBOUR: 'it returns false'. Refute it at one input. -/
def nameBackWrong : ChangeSpec := { name := "nameBack", fn := fun _ => fun
  | [d1, d2] => { results := [.lit (.bool false)], args := [d1, d2] }
  | _ => none }
def NameBackWrongFalsely : Prop := nameBackRow.holds Try.pinned (OpenSpec.ofChange nameBackWrong)

/-- 'gaugerlaw16.NameTells': WHATEVER THE INPUT: true; the input reads as it did. -/
def nameTellsSpec : ChangeSpec := { name := "nameTells", fn := fun _ => fun
  | [d1, d2, d3] => { results := [.lit (.bool true)], args := [d1, d2, d3] }
  | _ => none }
def nameTellsRow : OpenClaim := { program := "ytnfgcfljjmjmpaa", sum := "4365b2cbbbffcbc1d80fa32621d0223194a04fb0f03f4b2b6a4196b2e340f105", func := "gauger/gaugerlaw16.NameTells", spec := "nameTells", inPlace := ["internal/abi.NoEscape", "internal/bytealg.abigen_runtime_cmpstring"], unfollowed := true, recurses := true, apart := false }
def NameTellsSaid : Prop := nameTellsRow.holds Try.pinned (OpenSpec.ofChange nameTellsSpec)

/-- ITS FALSE NEIGHBOUR: 'it returns false'. Refute it at one input. -/
def nameTellsWrong : ChangeSpec := { name := "nameTells", fn := fun _ => fun
  | [d1, d2, d3] => { results := [.lit (.bool false)], args := [d1, d2, d3] }
  | _ => none }
def NameTellsWrongFalsely : Prop := nameTellsRow.holds Try.pinned (OpenSpec.ofChange nameTellsWrong)

/-- 'gaugerlaw16.NameAppends': WHATEVER THE INPUT: true; the input reads as it did. -/
def nameAppendsSpec : ChangeSpec := { name := "nameAppends", fn := fun _ => fun
  | [d1, d2, d3] => { results := [.lit (.bool true)], args := [d1, d2, d3] }
  | _ => none }
def nameAppendsRow : OpenClaim := { program := "ytnfgcfljjmjmpaa", sum := "4365b2cbbbffcbc1d80fa32621d0223194a04fb0f03f4b2b6a4196b2e340f105", func := "gauger/gaugerlaw16.NameAppends", spec := "nameAppends", inPlace := ["internal/abi.NoEscape", "internal/bytealg.abigen_runtime_cmpstring"], unfollowed := true, recurses := true, apart := false }
def NameAppendsSaid : Prop := nameAppendsRow.holds Try.pinned (OpenSpec.ofChange nameAppendsSpec)

/-- ITS FALSE NEIGHBOUR: 'it returns false'. Refute it at one input. -/
def nameAppendsWrong : ChangeSpec := { name := "nameAppends", fn := fun _ => fun
  | [d1, d2, d3] => { results := [.lit (.bool false)], args := [d1, d2, d3] }
  | _ => none }
def NameAppendsWrongFalsely : Prop := nameAppendsRow.holds Try.pinned (OpenSpec.ofChange nameAppendsWrong)

/-- 'gaugerlaw16.NameSmall': WHATEVER THE INPUT: true; the input reads as it did. -/
def nameSmallSpec : ChangeSpec := { name := "nameSmall", fn := fun _ => fun
  | [] => { results := [.lit (.bool true)], args := [] }
  | _ => none }
def nameSmallRow : OpenClaim := { program := "ytnfgcfljjmjmpaa", sum := "4365b2cbbbffcbc1d80fa32621d0223194a04fb0f03f4b2b6a4196b2e340f105", func := "gauger/gaugerlaw16.NameSmall", spec := "nameSmall", inPlace := ["internal/abi.NoEscape", "internal/bytealg.abigen_runtime_cmpstring", "internal/bytealg.MakeNoZero"], unfollowed := true, recurses := true, apart := false }
def NameSmallSaid : Prop := nameSmallRow.holds Try.pinned (OpenSpec.ofChange nameSmallSpec)

/-- ITS FALSE NEIGHBOUR: 'it returns false'. Refute it at one input. -/
def nameSmallWrong : ChangeSpec := { name := "nameSmall", fn := fun _ => fun
  | [] => { results := [.lit (.bool false)], args := [] }
  | _ => none }
def NameSmallWrongFalsely : Prop := nameSmallRow.holds Try.pinned (OpenSpec.ofChange nameSmallWrong)

/-- 'gaugerlaw16.NameOrder': WHATEVER THE INPUT: true; the input reads as it did. -/
def nameOrderSpec : ChangeSpec := { name := "nameOrder", fn := fun _ => fun
  | [d1, d2, d3, d4] => { results := [.lit (.bool true)], args := [d1, d2, d3, d4] }
  | _ => none }
def nameOrderRow : OpenClaim := { program := "ytnfgcfljjmjmpaa", sum := "4365b2cbbbffcbc1d80fa32621d0223194a04fb0f03f4b2b6a4196b2e340f105", func := "gauger/gaugerlaw16.NameOrder", spec := "nameOrder", inPlace := ["internal/abi.NoEscape", "internal/bytealg.abigen_runtime_cmpstring"], unfollowed := true, recurses := true, apart := false }
def NameOrderSaid : Prop := nameOrderRow.holds Try.pinned (OpenSpec.ofChange nameOrderSpec)

/-- ITS FALSE NEIGHBOUR: 'it returns false'. Refute it at one input. -/
def nameOrderWrong : ChangeSpec := { name := "nameOrder", fn := fun _ => fun
  | [d1, d2, d3, d4] => { results := [.lit (.bool false)], args := [d1, d2, d3, d4] }
  | _ => none }
def NameOrderWrongFalsely : Prop := nameOrderRow.holds Try.pinned (OpenSpec.ofChange nameOrderWrong)

/- THE SECOND FORM. 'bulk': how many values and letters a reading holds, each counted each time it is reached (what is shared counts as often as it is met; a slice's spare places count too). A statement '..UptoSaid' is the law's where the arguments, and the package variables that the reading takes, are together of bulk at most 1048576: NARROWER than '..Said'. Prove '..Said' where nothing that the law and all that it calls make is longer than what came in: it says more and counts as full. Else prove '..UptoSaid'. A law counts once. -/
mutual
def uptoBulk {H : Type} : DataW H → Nat
  | .lit (.string bytes) => bytes.length + 1
  | .lit _ => 1
  | .nil => 1
  | .ptr d => uptoBulk d + 1
  | .slice elems spare => uptoBulkAll elems + uptoBulkAll spare + 1
  | .agg parts => uptoBulkAll parts + 1
  | .iface _ d => uptoBulk d + 1
  | .map entries => uptoBulkEntries entries + 1
  | .held _ => 1
def uptoBulkAll {H : Type} : List (DataW H) → Nat
  | [] => 0
  | d :: r => uptoBulk d + uptoBulkAll r
def uptoBulkEntries {H : Type} : List (Lit × DataW H) → Nat
  | [] => 0
  | x :: r => uptoBulkEntry x + uptoBulkEntries r
def uptoBulkEntry {H : Type} : Lit × DataW H → Nat
  | (.string bytes, d) => bytes.length + uptoBulk d + 1
  | (_, d) => uptoBulk d + 1
 end
def uptoSmall : (H : Type) → List (DataW H) → Bool := fun _ ds => decide (uptoBulkAll ds ≤ 1048576)
def OpenSpec.upto (s : _root_.Go.ChangeSpec) : _root_.Go.OpenSpec := { _root_.Go.OpenSpec.ofChange s with cond := some uptoSmall }

/-- 'gaugerlaw16.NameEnds', WHERE WHAT IT READS IS OF BULK AT MOST 1048576: true; the input reads as it did. -/
def nameEndsUptoRow : OpenClaim := { program := "ytnfgcfljjmjmpaa", sum := "4365b2cbbbffcbc1d80fa32621d0223194a04fb0f03f4b2b6a4196b2e340f105", func := "gauger/gaugerlaw16.NameEnds", spec := "nameEnds", inPlace := ["internal/abi.NoEscape", "internal/bytealg.abigen_runtime_cmpstring"], unfollowed := true, recurses := true, apart := false, narrowed := true }
def NameEndsUptoSaid : Prop := nameEndsUptoRow.holds Try.pinned (OpenSpec.upto nameEndsSpec)

/-- 'gaugerlaw16.NameJoins', WHERE WHAT IT READS IS OF BULK AT MOST 1048576: true; the input reads as it did. -/
def nameJoinsUptoRow : OpenClaim := { program := "ytnfgcfljjmjmpaa", sum := "4365b2cbbbffcbc1d80fa32621d0223194a04fb0f03f4b2b6a4196b2e340f105", func := "gauger/gaugerlaw16.NameJoins", spec := "nameJoins", inPlace := ["internal/abi.NoEscape", "internal/bytealg.abigen_runtime_cmpstring"], unfollowed := true, recurses := true, apart := false, narrowed := true }
def NameJoinsUptoSaid : Prop := nameJoinsUptoRow.holds Try.pinned (OpenSpec.upto nameJoinsSpec)

/-- 'gaugerlaw16.NameReads', WHERE WHAT IT READS IS OF BULK AT MOST 1048576: true; the input reads as it did. -/
def nameReadsUptoRow : OpenClaim := { program := "ytnfgcfljjmjmpaa", sum := "4365b2cbbbffcbc1d80fa32621d0223194a04fb0f03f4b2b6a4196b2e340f105", func := "gauger/gaugerlaw16.NameReads", spec := "nameReads", inPlace := ["internal/abi.NoEscape", "internal/bytealg.abigen_runtime_cmpstring"], unfollowed := true, recurses := true, apart := false, narrowed := true }
def NameReadsUptoSaid : Prop := nameReadsUptoRow.holds Try.pinned (OpenSpec.upto nameReadsSpec)

/-- 'gaugerlaw16.NameBack', WHERE WHAT IT READS IS OF BULK AT MOST 1048576: true; the input reads as it did. -/
def nameBackUptoRow : OpenClaim := { program := "ytnfgcfljjmjmpaa", sum := "4365b2cbbbffcbc1d80fa32621d0223194a04fb0f03f4b2b6a4196b2e340f105", func := "gauger/gaugerlaw16.NameBack", spec := "nameBack", inPlace := ["internal/abi.NoEscape", "internal/bytealg.abigen_runtime_cmpstring"], unfollowed := true, recurses := true, apart := false, narrowed := true }
def NameBackUptoSaid : Prop := nameBackUptoRow.holds Try.pinned (OpenSpec.upto nameBackSpec)

/-- 'gaugerlaw16.NameTells', WHERE WHAT IT READS IS OF BULK AT MOST 1048576: true; the input reads as it did. -/
def nameTellsUptoRow : OpenClaim := { program := "ytnfgcfljjmjmpaa", sum := "4365b2cbbbffcbc1d80fa32621d0223194a04fb0f03f4b2b6a4196b2e340f105", func := "gauger/gaugerlaw16.NameTells", spec := "nameTells", inPlace := ["internal/abi.NoEscape", "internal/bytealg.abigen_runtime_cmpstring"], unfollowed := true, recurses := true, apart := false, narrowed := true }
def NameTellsUptoSaid : Prop := nameTellsUptoRow.holds Try.pinned (OpenSpec.upto nameTellsSpec)

/-- 'gaugerlaw16.NameAppends', WHERE WHAT IT READS IS OF BULK AT MOST 1048576: true; the input reads as it did. -/
def nameAppendsUptoRow : OpenClaim := { program := "ytnfgcfljjmjmpaa", sum := "4365b2cbbbffcbc1d80fa32621d0223194a04fb0f03f4b2b6a4196b2e340f105", func := "gauger/gaugerlaw16.NameAppends", spec := "nameAppends", inPlace := ["internal/abi.NoEscape", "internal/bytealg.abigen_runtime_cmpstring"], unfollowed := true, recurses := true, apart := false, narrowed := true }
def NameAppendsUptoSaid : Prop := nameAppendsUptoRow.holds Try.pinned (OpenSpec.upto nameAppendsSpec)

/-- 'gaugerlaw16.NameSmall', WHERE WHAT IT READS IS OF BULK AT MOST 1048576: true; the input reads as it did. -/
def nameSmallUptoRow : OpenClaim := { program := "ytnfgcfljjmjmpaa", sum := "4365b2cbbbffcbc1d80fa32621d0223194a04fb0f03f4b2b6a4196b2e340f105", func := "gauger/gaugerlaw16.NameSmall", spec := "nameSmall", inPlace := ["internal/abi.NoEscape", "internal/bytealg.abigen_runtime_cmpstring", "internal/bytealg.MakeNoZero"], unfollowed := true, recurses := true, apart := false, narrowed := true }
def NameSmallUptoSaid : Prop := nameSmallUptoRow.holds Try.pinned (OpenSpec.upto nameSmallSpec)

/-- 'gaugerlaw16.NameOrder', WHERE WHAT IT READS IS OF BULK AT MOST 1048576: true; the input reads as it did. -/
def nameOrderUptoRow : OpenClaim := { program := "ytnfgcfljjmjmpaa", sum := "4365b2cbbbffcbc1d80fa32621d0223194a04fb0f03f4b2b6a4196b2e340f105", func := "gauger/gaugerlaw16.NameOrder", spec := "nameOrder", inPlace := ["internal/abi.NoEscape", "internal/bytealg.abigen_runtime_cmpstring"], unfollowed := true, recurses := true, apart := false, narrowed := true }
def NameOrderUptoSaid : Prop := nameOrderUptoRow.holds Try.pinned (OpenSpec.upto nameOrderSpec)

end Rows
end Go.Proofs.Ytnfgcfljjmjmpaa
