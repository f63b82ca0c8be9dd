/-
  NARROWER THAN 'FOR EVERY INPUT', by the rows' own cells (each row's printed sentence says how): SrvTakes: laid · SrvAsks: laid · SrvLists: laid · SrvSmall: laid · SrvPicks: laid · SrvTiers: laid · SrvAsked: laid · SrvSame: laid · SrvWrong: laid · SrvBack: laid.
  DERIVED. THE GIVEN ROWS OF THIS SEAT. 10 by the template 'for every input the law returns true; each argument reads behind the call as it read before'; 0 by the template 'total and deterministic' (their statements: YtlipmlbijddopaaGreatDoorTotals.lean).
  GIVEN WITH THE SEED: the statements are not yours to turn. If you find one false, say at which input.
  Laid BY PROGRAM, IN A SANDBOX (cutbox-rows.mjs): the forced cells as the released guide's own fill.sh prints them over the translation 2af91ab59a93e797… (all of the seat's roots in one cut). By AI agents, Wed Nov 11 2026. No macro, syntax, notation, axiom, sorry.
-/
import Derived.Test.YtlipmlbijddopaaGreatDoorChecked
import GoSem.Claim
import GoSem.ClaimJoined
import GoSem.ClaimMapViews
import Derived.JoinedTies
import Derived.KernelRfl
namespace Go.Proofs.YtlipmlbijddopaaGreatDoor
/- THE CELL 'sum', in the pinned program and in every row, IS THE sha256 OF THE DUMP (.gsa) THAT YtlipmlbijddopaaGreatDoorProg.lean LOADS. Nothing in Lean hashes anything: it is a label: what it is worth is what the hold of that sum in a sandbox is worth. -/
noncomputable def Tryz.pinned : Pinned := { name := "ytlipmlbijddopaagreatdoor", sum := "2af91ab59a93e797986d3e96c3f440d5a01d045baaeca20a9fcaaad70f05d2ef", checked := Tryz.checked }
namespace Rows
def none {H : Type} : Left H := { results := [], args := [] }

/- WHAT THE LISTED PACKAGE-LEVEL VARIABLES READ AS WHEN THE CALL BEGINS. Each datum BY PROGRAM (the guide's laid-datum.mjs) off the statement by which the dump's own 'gosem.cut.vars' lays the variable. In a bare row this is a premise. The card (YtlipmlbijddopaaGreatDoorCards.lean) ties it to the program's text. -/
def laid_math_bits_deBruijn32tab {H : Type} : DataW H := .agg [.lit (.int .u8 0), .lit (.int .u8 1), .lit (.int .u8 28), .lit (.int .u8 2), .lit (.int .u8 29), .lit (.int .u8 14), .lit (.int .u8 24), .lit (.int .u8 3), .lit (.int .u8 30), .lit (.int .u8 22), .lit (.int .u8 20), .lit (.int .u8 15), .lit (.int .u8 25), .lit (.int .u8 17), .lit (.int .u8 4), .lit (.int .u8 8), .lit (.int .u8 31), .lit (.int .u8 27), .lit (.int .u8 13), .lit (.int .u8 23), .lit (.int .u8 21), .lit (.int .u8 19), .lit (.int .u8 16), .lit (.int .u8 7), .lit (.int .u8 26), .lit (.int .u8 12), .lit (.int .u8 18), .lit (.int .u8 6), .lit (.int .u8 11), .lit (.int .u8 5), .lit (.int .u8 10), .lit (.int .u8 9)]
def laid_math_bits_deBruijn64tab {H : Type} : DataW H := .agg [.lit (.int .u8 0), .lit (.int .u8 1), .lit (.int .u8 56), .lit (.int .u8 2), .lit (.int .u8 57), .lit (.int .u8 49), .lit (.int .u8 28), .lit (.int .u8 3), .lit (.int .u8 61), .lit (.int .u8 58), .lit (.int .u8 42), .lit (.int .u8 50), .lit (.int .u8 38), .lit (.int .u8 29), .lit (.int .u8 17), .lit (.int .u8 4), .lit (.int .u8 62), .lit (.int .u8 47), .lit (.int .u8 59), .lit (.int .u8 36), .lit (.int .u8 45), .lit (.int .u8 43), .lit (.int .u8 51), .lit (.int .u8 22), .lit (.int .u8 53), .lit (.int .u8 39), .lit (.int .u8 33), .lit (.int .u8 30), .lit (.int .u8 24), .lit (.int .u8 18), .lit (.int .u8 12), .lit (.int .u8 5), .lit (.int .u8 63), .lit (.int .u8 55), .lit (.int .u8 48), .lit (.int .u8 27), .lit (.int .u8 60), .lit (.int .u8 41), .lit (.int .u8 37), .lit (.int .u8 16), .lit (.int .u8 46), .lit (.int .u8 35), .lit (.int .u8 44), .lit (.int .u8 21), .lit (.int .u8 52), .lit (.int .u8 32), .lit (.int .u8 23), .lit (.int .u8 11), .lit (.int .u8 54), .lit (.int .u8 26), .lit (.int .u8 40), .lit (.int .u8 15), .lit (.int .u8 34), .lit (.int .u8 20), .lit (.int .u8 31), .lit (.int .u8 10), .lit (.int .u8 25), .lit (.int .u8 14), .lit (.int .u8 19), .lit (.int .u8 9), .lit (.int .u8 13), .lit (.int .u8 8), .lit (.int .u8 7), .lit (.int .u8 6)]
def laid_internal_strconv_uint64pow10 {H : Type} : DataW H := .agg [.lit (.int .u64 1), .lit (.int .u64 10), .lit (.int .u64 100), .lit (.int .u64 1000), .lit (.int .u64 10000), .lit (.int .u64 100000), .lit (.int .u64 1000000), .lit (.int .u64 10000000), .lit (.int .u64 100000000), .lit (.int .u64 1000000000), .lit (.int .u64 10000000000), .lit (.int .u64 100000000000), .lit (.int .u64 1000000000000), .lit (.int .u64 10000000000000), .lit (.int .u64 100000000000000), .lit (.int .u64 1000000000000000), .lit (.int .u64 10000000000000000), .lit (.int .u64 100000000000000000), .lit (.int .u64 1000000000000000000), .lit (.int .u64 10000000000000000000)]

/-- 'gaugerlaw18.SrvTakes': WHATEVER THE INPUT: true; the input reads as it did. -/
def srvTakesSpec : ChangeSpec := { name := "srvTakes", fn := fun _ => fun
  | [d1, d2] => { results := [.lit (.bool true)], args := [d1, d2] }
  | _ => none }
def srvTakesRow : OpenClaim := { program := "ytlipmlbijddopaagreatdoor", sum := "2af91ab59a93e797986d3e96c3f440d5a01d045baaeca20a9fcaaad70f05d2ef", func := "gauger/gaugerlaw18.SrvTakes", spec := "srvTakes", inPlace := ["internal/abi.NoEscape"], unfollowed := true, recurses := true, named := ["internal/strconv.uint64pow10", "math/bits.deBruijn32tab", "math/bits.deBruijn64tab"], apart := false, laid := [("math/bits.deBruijn32tab", laid_math_bits_deBruijn32tab), ("math/bits.deBruijn64tab", laid_math_bits_deBruijn64tab), ("internal/strconv.uint64pow10", laid_internal_strconv_uint64pow10)] }
def SrvTakesSaid : Prop := srvTakesRow.holds Tryz.pinned (OpenSpec.ofChange srvTakesSpec)

/-- ITS FALSE NEIGHBOUR: 'it returns false'. Refute it at one input. -/
def srvTakesWrong : ChangeSpec := { name := "srvTakes", fn := fun _ => fun
  | [d1, d2] => { results := [.lit (.bool false)], args := [d1, d2] }
  | _ => none }
def SrvTakesWrongFalsely : Prop := srvTakesRow.holds Tryz.pinned (OpenSpec.ofChange srvTakesWrong)

/-- 'gaugerlaw18.SrvAsks': WHATEVER THE INPUT: true; the input reads as it did. -/
def srvAsksSpec : ChangeSpec := { name := "srvAsks", fn := fun _ => fun
  | [d1, d2] => { results := [.lit (.bool true)], args := [d1, d2] }
  | _ => none }
def srvAsksRow : OpenClaim := { program := "ytlipmlbijddopaagreatdoor", sum := "2af91ab59a93e797986d3e96c3f440d5a01d045baaeca20a9fcaaad70f05d2ef", func := "gauger/gaugerlaw18.SrvAsks", spec := "srvAsks", inPlace := ["internal/abi.NoEscape"], unfollowed := true, recurses := true, named := ["internal/strconv.uint64pow10", "math/bits.deBruijn32tab", "math/bits.deBruijn64tab"], apart := false, laid := [("math/bits.deBruijn32tab", laid_math_bits_deBruijn32tab), ("math/bits.deBruijn64tab", laid_math_bits_deBruijn64tab), ("internal/strconv.uint64pow10", laid_internal_strconv_uint64pow10)] }
def SrvAsksSaid : Prop := srvAsksRow.holds Tryz.pinned (OpenSpec.ofChange srvAsksSpec)

/-- ITS FALSE NEIGHBOUR: 'it returns false'. Refute it at one input. -/
def srvAsksWrong : ChangeSpec := { name := "srvAsks", fn := fun _ => fun
  | [d1, d2] => { results := [.lit (.bool false)], args := [d1, d2] }
  | _ => none }
def SrvAsksWrongFalsely : Prop := srvAsksRow.holds Tryz.pinned (OpenSpec.ofChange srvAsksWrong)

/-- 'gaugerlaw18.SrvLists': WHATEVER THE INPUT: true; the input reads as it did. -/
def srvListsSpec : ChangeSpec := { name := "srvLists", fn := fun _ => fun
  | [d1, d2] => { results := [.lit (.bool true)], args := [d1, d2] }
  | _ => none }
def srvListsRow : OpenClaim := { program := "ytlipmlbijddopaagreatdoor", sum := "2af91ab59a93e797986d3e96c3f440d5a01d045baaeca20a9fcaaad70f05d2ef", func := "gauger/gaugerlaw18.SrvLists", spec := "srvLists", inPlace := ["internal/abi.NoEscape"], unfollowed := true, recurses := true, named := ["internal/strconv.uint64pow10", "math/bits.deBruijn32tab", "math/bits.deBruijn64tab"], apart := false, laid := [("math/bits.deBruijn32tab", laid_math_bits_deBruijn32tab), ("math/bits.deBruijn64tab", laid_math_bits_deBruijn64tab), ("internal/strconv.uint64pow10", laid_internal_strconv_uint64pow10)] }
def SrvListsSaid : Prop := srvListsRow.holds Tryz.pinned (OpenSpec.ofChange srvListsSpec)

/-- ITS FALSE NEIGHBOUR: 'it returns false'. Refute it at one input. -/
def srvListsWrong : ChangeSpec := { name := "srvLists", fn := fun _ => fun
  | [d1, d2] => { results := [.lit (.bool false)], args := [d1, d2] }
  | _ => none }
def SrvListsWrongFalsely : Prop := srvListsRow.holds Tryz.pinned (OpenSpec.ofChange srvListsWrong)

/-- 'gaugerlaw18.SrvSmall': WHATEVER THE INPUT: true; the input reads as it did. -/
def srvSmallSpec : ChangeSpec := { name := "srvSmall", fn := fun _ => fun
  | [] => { results := [.lit (.bool true)], args := [] }
  | _ => none }
def srvSmallRow : OpenClaim := { program := "ytlipmlbijddopaagreatdoor", sum := "2af91ab59a93e797986d3e96c3f440d5a01d045baaeca20a9fcaaad70f05d2ef", func := "gauger/gaugerlaw18.SrvSmall", spec := "srvSmall", inPlace := ["internal/abi.NoEscape"], unfollowed := true, recurses := true, named := ["internal/strconv.uint64pow10", "math/bits.deBruijn32tab", "math/bits.deBruijn64tab"], apart := false, laid := [("math/bits.deBruijn32tab", laid_math_bits_deBruijn32tab), ("math/bits.deBruijn64tab", laid_math_bits_deBruijn64tab), ("internal/strconv.uint64pow10", laid_internal_strconv_uint64pow10)] }
def SrvSmallSaid : Prop := srvSmallRow.holds Tryz.pinned (OpenSpec.ofChange srvSmallSpec)

/-- ITS FALSE NEIGHBOUR: 'it returns false'. Refute it at one input. -/
def srvSmallWrong : ChangeSpec := { name := "srvSmall", fn := fun _ => fun
  | [] => { results := [.lit (.bool false)], args := [] }
  | _ => none }
def SrvSmallWrongFalsely : Prop := srvSmallRow.holds Tryz.pinned (OpenSpec.ofChange srvSmallWrong)

/-- 'gaugerlaw18.SrvPicks': WHATEVER THE INPUT: true; the input reads as it did. -/
def srvPicksSpec : ChangeSpec := { name := "srvPicks", fn := fun _ => fun
  | [d1, d2] => { results := [.lit (.bool true)], args := [d1, d2] }
  | _ => none }
def srvPicksRow : OpenClaim := { program := "ytlipmlbijddopaagreatdoor", sum := "2af91ab59a93e797986d3e96c3f440d5a01d045baaeca20a9fcaaad70f05d2ef", func := "gauger/gaugerlaw18.SrvPicks", spec := "srvPicks", inPlace := ["internal/abi.NoEscape"], unfollowed := true, recurses := true, named := ["internal/strconv.uint64pow10", "math/bits.deBruijn32tab", "math/bits.deBruijn64tab"], apart := false, laid := [("math/bits.deBruijn32tab", laid_math_bits_deBruijn32tab), ("math/bits.deBruijn64tab", laid_math_bits_deBruijn64tab), ("internal/strconv.uint64pow10", laid_internal_strconv_uint64pow10)] }
def SrvPicksSaid : Prop := srvPicksRow.holds Tryz.pinned (OpenSpec.ofChange srvPicksSpec)

/-- ITS FALSE NEIGHBOUR: 'it returns false'. Refute it at one input. -/
def srvPicksWrong : ChangeSpec := { name := "srvPicks", fn := fun _ => fun
  | [d1, d2] => { results := [.lit (.bool false)], args := [d1, d2] }
  | _ => none }
def SrvPicksWrongFalsely : Prop := srvPicksRow.holds Tryz.pinned (OpenSpec.ofChange srvPicksWrong)

/-- 'gaugerlaw18.SrvTiers': WHATEVER THE INPUT: true; the input reads as it did. -/
def srvTiersSpec : ChangeSpec := { name := "srvTiers", fn := fun _ => fun
  | [d] => { results := [.lit (.bool true)], args := [d] }
  | _ => none }
def srvTiersRow : OpenClaim := { program := "ytlipmlbijddopaagreatdoor", sum := "2af91ab59a93e797986d3e96c3f440d5a01d045baaeca20a9fcaaad70f05d2ef", func := "gauger/gaugerlaw18.SrvTiers", spec := "srvTiers", inPlace := ["internal/abi.NoEscape"], unfollowed := true, recurses := true, named := ["internal/strconv.uint64pow10", "math/bits.deBruijn32tab", "math/bits.deBruijn64tab"], apart := false, laid := [("math/bits.deBruijn32tab", laid_math_bits_deBruijn32tab), ("math/bits.deBruijn64tab", laid_math_bits_deBruijn64tab), ("internal/strconv.uint64pow10", laid_internal_strconv_uint64pow10)] }
def SrvTiersSaid : Prop := srvTiersRow.holds Tryz.pinned (OpenSpec.ofChange srvTiersSpec)

/-- ITS FALSE NEIGHBOUR: 'it returns false'. Refute it at one input. -/
def srvTiersWrong : ChangeSpec := { name := "srvTiers", fn := fun _ => fun
  | [d] => { results := [.lit (.bool false)], args := [d] }
  | _ => none }
def SrvTiersWrongFalsely : Prop := srvTiersRow.holds Tryz.pinned (OpenSpec.ofChange srvTiersWrong)

/-- 'gaugerlaw18.SrvAsked': WHATEVER THE INPUT: true; the input reads as it did. -/
def srvAskedSpec : ChangeSpec := { name := "srvAsked", fn := fun _ => fun
  | [d1, d2, d3] => { results := [.lit (.bool true)], args := [d1, d2, d3] }
  | _ => none }
def srvAskedRow : OpenClaim := { program := "ytlipmlbijddopaagreatdoor", sum := "2af91ab59a93e797986d3e96c3f440d5a01d045baaeca20a9fcaaad70f05d2ef", func := "gauger/gaugerlaw18.SrvAsked", spec := "srvAsked", inPlace := ["internal/abi.NoEscape"], unfollowed := true, recurses := true, named := ["internal/strconv.uint64pow10", "math/bits.deBruijn32tab", "math/bits.deBruijn64tab"], apart := false, laid := [("math/bits.deBruijn32tab", laid_math_bits_deBruijn32tab), ("math/bits.deBruijn64tab", laid_math_bits_deBruijn64tab), ("internal/strconv.uint64pow10", laid_internal_strconv_uint64pow10)] }
def SrvAskedSaid : Prop := srvAskedRow.holds Tryz.pinned (OpenSpec.ofChange srvAskedSpec)

/-- ITS FALSE NEIGHBOUR: 'it returns false'. Refute it at one input. -/
def srvAskedWrong : ChangeSpec := { name := "srvAsked", fn := fun _ => fun
  | [d1, d2, d3] => { results := [.lit (.bool false)], args := [d1, d2, d3] }
  | _ => none }
def SrvAskedWrongFalsely : Prop := srvAskedRow.holds Tryz.pinned (OpenSpec.ofChange srvAskedWrong)

/-- 'gaugerlaw18.SrvSame': WHATEVER THE INPUT: true; the input reads as it did. -/
def srvSameSpec : ChangeSpec := { name := "srvSame", fn := fun _ => fun
  | [d1, d2, d3] => { results := [.lit (.bool true)], args := [d1, d2, d3] }
  | _ => none }
def srvSameRow : OpenClaim := { program := "ytlipmlbijddopaagreatdoor", sum := "2af91ab59a93e797986d3e96c3f440d5a01d045baaeca20a9fcaaad70f05d2ef", func := "gauger/gaugerlaw18.SrvSame", spec := "srvSame", inPlace := ["internal/abi.NoEscape", "internal/bytealg.MakeNoZero"], unfollowed := true, recurses := true, named := ["internal/strconv.uint64pow10", "math/bits.deBruijn32tab", "math/bits.deBruijn64tab"], apart := false, laid := [("math/bits.deBruijn32tab", laid_math_bits_deBruijn32tab), ("math/bits.deBruijn64tab", laid_math_bits_deBruijn64tab), ("internal/strconv.uint64pow10", laid_internal_strconv_uint64pow10)] }
def SrvSameSaid : Prop := srvSameRow.holds Tryz.pinned (OpenSpec.ofChange srvSameSpec)

/-- ITS FALSE NEIGHBOUR: 'it returns false'. Refute it at one input. -/
def srvSameWrong : ChangeSpec := { name := "srvSame", fn := fun _ => fun
  | [d1, d2, d3] => { results := [.lit (.bool false)], args := [d1, d2, d3] }
  | _ => none }
def SrvSameWrongFalsely : Prop := srvSameRow.holds Tryz.pinned (OpenSpec.ofChange srvSameWrong)

/-- 'gaugerlaw18.SrvWrong': WHATEVER THE INPUT: true; the input reads as it did. -/
def srvWrongSpec : ChangeSpec := { name := "srvWrong", fn := fun _ => fun
  | [d1, d2, d3, d4, d5] => { results := [.lit (.bool true)], args := [d1, d2, d3, d4, d5] }
  | _ => none }
def srvWrongRow : OpenClaim := { program := "ytlipmlbijddopaagreatdoor", sum := "2af91ab59a93e797986d3e96c3f440d5a01d045baaeca20a9fcaaad70f05d2ef", func := "gauger/gaugerlaw18.SrvWrong", spec := "srvWrong", inPlace := ["internal/abi.NoEscape", "internal/bytealg.MakeNoZero"], unfollowed := true, recurses := true, named := ["internal/strconv.uint64pow10", "math/bits.deBruijn32tab", "math/bits.deBruijn64tab"], apart := false, laid := [("math/bits.deBruijn32tab", laid_math_bits_deBruijn32tab), ("math/bits.deBruijn64tab", laid_math_bits_deBruijn64tab), ("internal/strconv.uint64pow10", laid_internal_strconv_uint64pow10)] }
def SrvWrongSaid : Prop := srvWrongRow.holds Tryz.pinned (OpenSpec.ofChange srvWrongSpec)

/-- ITS FALSE NEIGHBOUR: 'it returns false'. Refute it at one input. -/
def srvWrongWrong : ChangeSpec := { name := "srvWrong", fn := fun _ => fun
  | [d1, d2, d3, d4, d5] => { results := [.lit (.bool false)], args := [d1, d2, d3, d4, d5] }
  | _ => none }
def SrvWrongWrongFalsely : Prop := srvWrongRow.holds Tryz.pinned (OpenSpec.ofChange srvWrongWrong)

/-- 'gaugerlaw18.SrvBack': WHATEVER THE INPUT: true; the input reads as it did. -/
def srvBackSpec : ChangeSpec := { name := "srvBack", fn := fun _ => fun
  | [d1, d2] => { results := [.lit (.bool true)], args := [d1, d2] }
  | _ => none }
def srvBackRow : OpenClaim := { program := "ytlipmlbijddopaagreatdoor", sum := "2af91ab59a93e797986d3e96c3f440d5a01d045baaeca20a9fcaaad70f05d2ef", func := "gauger/gaugerlaw18.SrvBack", spec := "srvBack", inPlace := ["internal/abi.NoEscape", "internal/bytealg.MakeNoZero"], unfollowed := true, recurses := true, named := ["internal/strconv.uint64pow10", "math/bits.deBruijn32tab", "math/bits.deBruijn64tab"], apart := false, laid := [("math/bits.deBruijn32tab", laid_math_bits_deBruijn32tab), ("math/bits.deBruijn64tab", laid_math_bits_deBruijn64tab), ("internal/strconv.uint64pow10", laid_internal_strconv_uint64pow10)] }
def SrvBackSaid : Prop := srvBackRow.holds Tryz.pinned (OpenSpec.ofChange srvBackSpec)

/-- ITS FALSE NEIGHBOUR: 'it returns false'. Refute it at one input. -/
def srvBackWrong : ChangeSpec := { name := "srvBack", fn := fun _ => fun
  | [d1, d2] => { results := [.lit (.bool false)], args := [d1, d2] }
  | _ => none }
def SrvBackWrongFalsely : Prop := srvBackRow.holds Tryz.pinned (OpenSpec.ofChange srvBackWrong)

/- THE SECOND FORM. 'bulk': how many values and letters a reading holds, each counted each time it is reached (what is shared counts as often as it is met; a slice's spare places count too). A statement '..UptoSaid' is the law's where the arguments, and the package variables that the reading takes, are together of bulk at most 1048576: NARROWER than '..Said'. Prove '..Said' where nothing that the law and all that it calls make is longer than what came in: it says more and counts as full. Else prove '..UptoSaid'. A law counts once. -/
mutual
def uptoBulk {H : Type} : DataW H → Nat
  | .lit (.string bytes) => bytes.length + 1
  | .lit _ => 1
  | .nil => 1
  | .ptr d => uptoBulk d + 1
  | .slice elems spare => uptoBulkAll elems + uptoBulkAll spare + 1
  | .agg parts => uptoBulkAll parts + 1
  | .iface _ d => uptoBulk d + 1
  | .map entries => uptoBulkEntries entries + 1
  | .held _ => 1
def uptoBulkAll {H : Type} : List (DataW H) → Nat
  | [] => 0
  | d :: r => uptoBulk d + uptoBulkAll r
def uptoBulkEntries {H : Type} : List (Lit × DataW H) → Nat
  | [] => 0
  | x :: r => uptoBulkEntry x + uptoBulkEntries r
def uptoBulkEntry {H : Type} : Lit × DataW H → Nat
  | (.string bytes, d) => bytes.length + uptoBulk d + 1
  | (_, d) => uptoBulk d + 1
 end
def uptoSmall : (H : Type) → List (DataW H) → Bool := fun _ ds => decide (uptoBulkAll ds ≤ 1048576)
def OpenSpec.upto (s : _root_.Go.ChangeSpec) : _root_.Go.OpenSpec := { _root_.Go.OpenSpec.ofChange s with cond := some uptoSmall }

/-- 'gaugerlaw18.SrvTakes', WHERE WHAT IT READS IS OF BULK AT MOST 1048576: true; the input reads as it did. -/
def srvTakesUptoRow : OpenClaim := { program := "ytlipmlbijddopaagreatdoor", sum := "2af91ab59a93e797986d3e96c3f440d5a01d045baaeca20a9fcaaad70f05d2ef", func := "gauger/gaugerlaw18.SrvTakes", spec := "srvTakes", inPlace := ["internal/abi.NoEscape"], unfollowed := true, recurses := true, named := ["internal/strconv.uint64pow10", "math/bits.deBruijn32tab", "math/bits.deBruijn64tab"], apart := false, laid := [("math/bits.deBruijn32tab", laid_math_bits_deBruijn32tab), ("math/bits.deBruijn64tab", laid_math_bits_deBruijn64tab), ("internal/strconv.uint64pow10", laid_internal_strconv_uint64pow10)], narrowed := true }
def SrvTakesUptoSaid : Prop := srvTakesUptoRow.holds Tryz.pinned (OpenSpec.upto srvTakesSpec)

/-- 'gaugerlaw18.SrvAsks', WHERE WHAT IT READS IS OF BULK AT MOST 1048576: true; the input reads as it did. -/
def srvAsksUptoRow : OpenClaim := { program := "ytlipmlbijddopaagreatdoor", sum := "2af91ab59a93e797986d3e96c3f440d5a01d045baaeca20a9fcaaad70f05d2ef", func := "gauger/gaugerlaw18.SrvAsks", spec := "srvAsks", inPlace := ["internal/abi.NoEscape"], unfollowed := true, recurses := true, named := ["internal/strconv.uint64pow10", "math/bits.deBruijn32tab", "math/bits.deBruijn64tab"], apart := false, laid := [("math/bits.deBruijn32tab", laid_math_bits_deBruijn32tab), ("math/bits.deBruijn64tab", laid_math_bits_deBruijn64tab), ("internal/strconv.uint64pow10", laid_internal_strconv_uint64pow10)], narrowed := true }
def SrvAsksUptoSaid : Prop := srvAsksUptoRow.holds Tryz.pinned (OpenSpec.upto srvAsksSpec)

/-- 'gaugerlaw18.SrvLists', WHERE WHAT IT READS IS OF BULK AT MOST 1048576: true; the input reads as it did. -/
def srvListsUptoRow : OpenClaim := { program := "ytlipmlbijddopaagreatdoor", sum := "2af91ab59a93e797986d3e96c3f440d5a01d045baaeca20a9fcaaad70f05d2ef", func := "gauger/gaugerlaw18.SrvLists", spec := "srvLists", inPlace := ["internal/abi.NoEscape"], unfollowed := true, recurses := true, named := ["internal/strconv.uint64pow10", "math/bits.deBruijn32tab", "math/bits.deBruijn64tab"], apart := false, laid := [("math/bits.deBruijn32tab", laid_math_bits_deBruijn32tab), ("math/bits.deBruijn64tab", laid_math_bits_deBruijn64tab), ("internal/strconv.uint64pow10", laid_internal_strconv_uint64pow10)], narrowed := true }
def SrvListsUptoSaid : Prop := srvListsUptoRow.holds Tryz.pinned (OpenSpec.upto srvListsSpec)

/-- 'gaugerlaw18.SrvSmall', WHERE WHAT IT READS IS OF BULK AT MOST 1048576: true; the input reads as it did. -/
def srvSmallUptoRow : OpenClaim := { program := "ytlipmlbijddopaagreatdoor", sum := "2af91ab59a93e797986d3e96c3f440d5a01d045baaeca20a9fcaaad70f05d2ef", func := "gauger/gaugerlaw18.SrvSmall", spec := "srvSmall", inPlace := ["internal/abi.NoEscape"], unfollowed := true, recurses := true, named := ["internal/strconv.uint64pow10", "math/bits.deBruijn32tab", "math/bits.deBruijn64tab"], apart := false, laid := [("math/bits.deBruijn32tab", laid_math_bits_deBruijn32tab), ("math/bits.deBruijn64tab", laid_math_bits_deBruijn64tab), ("internal/strconv.uint64pow10", laid_internal_strconv_uint64pow10)], narrowed := true }
def SrvSmallUptoSaid : Prop := srvSmallUptoRow.holds Tryz.pinned (OpenSpec.upto srvSmallSpec)

/-- 'gaugerlaw18.SrvPicks', WHERE WHAT IT READS IS OF BULK AT MOST 1048576: true; the input reads as it did. -/
def srvPicksUptoRow : OpenClaim := { program := "ytlipmlbijddopaagreatdoor", sum := "2af91ab59a93e797986d3e96c3f440d5a01d045baaeca20a9fcaaad70f05d2ef", func := "gauger/gaugerlaw18.SrvPicks", spec := "srvPicks", inPlace := ["internal/abi.NoEscape"], unfollowed := true, recurses := true, named := ["internal/strconv.uint64pow10", "math/bits.deBruijn32tab", "math/bits.deBruijn64tab"], apart := false, laid := [("math/bits.deBruijn32tab", laid_math_bits_deBruijn32tab), ("math/bits.deBruijn64tab", laid_math_bits_deBruijn64tab), ("internal/strconv.uint64pow10", laid_internal_strconv_uint64pow10)], narrowed := true }
def SrvPicksUptoSaid : Prop := srvPicksUptoRow.holds Tryz.pinned (OpenSpec.upto srvPicksSpec)

/-- 'gaugerlaw18.SrvTiers', WHERE WHAT IT READS IS OF BULK AT MOST 1048576: true; the input reads as it did. -/
def srvTiersUptoRow : OpenClaim := { program := "ytlipmlbijddopaagreatdoor", sum := "2af91ab59a93e797986d3e96c3f440d5a01d045baaeca20a9fcaaad70f05d2ef", func := "gauger/gaugerlaw18.SrvTiers", spec := "srvTiers", inPlace := ["internal/abi.NoEscape"], unfollowed := true, recurses := true, named := ["internal/strconv.uint64pow10", "math/bits.deBruijn32tab", "math/bits.deBruijn64tab"], apart := false, laid := [("math/bits.deBruijn32tab", laid_math_bits_deBruijn32tab), ("math/bits.deBruijn64tab", laid_math_bits_deBruijn64tab), ("internal/strconv.uint64pow10", laid_internal_strconv_uint64pow10)], narrowed := true }
def SrvTiersUptoSaid : Prop := srvTiersUptoRow.holds Tryz.pinned (OpenSpec.upto srvTiersSpec)

/-- 'gaugerlaw18.SrvAsked', WHERE WHAT IT READS IS OF BULK AT MOST 1048576: true; the input reads as it did. -/
def srvAskedUptoRow : OpenClaim := { program := "ytlipmlbijddopaagreatdoor", sum := "2af91ab59a93e797986d3e96c3f440d5a01d045baaeca20a9fcaaad70f05d2ef", func := "gauger/gaugerlaw18.SrvAsked", spec := "srvAsked", inPlace := ["internal/abi.NoEscape"], unfollowed := true, recurses := true, named := ["internal/strconv.uint64pow10", "math/bits.deBruijn32tab", "math/bits.deBruijn64tab"], apart := false, laid := [("math/bits.deBruijn32tab", laid_math_bits_deBruijn32tab), ("math/bits.deBruijn64tab", laid_math_bits_deBruijn64tab), ("internal/strconv.uint64pow10", laid_internal_strconv_uint64pow10)], narrowed := true }
def SrvAskedUptoSaid : Prop := srvAskedUptoRow.holds Tryz.pinned (OpenSpec.upto srvAskedSpec)

/-- 'gaugerlaw18.SrvSame', WHERE WHAT IT READS IS OF BULK AT MOST 1048576: true; the input reads as it did. -/
def srvSameUptoRow : OpenClaim := { program := "ytlipmlbijddopaagreatdoor", sum := "2af91ab59a93e797986d3e96c3f440d5a01d045baaeca20a9fcaaad70f05d2ef", func := "gauger/gaugerlaw18.SrvSame", spec := "srvSame", inPlace := ["internal/abi.NoEscape", "internal/bytealg.MakeNoZero"], unfollowed := true, recurses := true, named := ["internal/strconv.uint64pow10", "math/bits.deBruijn32tab", "math/bits.deBruijn64tab"], apart := false, laid := [("math/bits.deBruijn32tab", laid_math_bits_deBruijn32tab), ("math/bits.deBruijn64tab", laid_math_bits_deBruijn64tab), ("internal/strconv.uint64pow10", laid_internal_strconv_uint64pow10)], narrowed := true }
def SrvSameUptoSaid : Prop := srvSameUptoRow.holds Tryz.pinned (OpenSpec.upto srvSameSpec)

/-- 'gaugerlaw18.SrvWrong', WHERE WHAT IT READS IS OF BULK AT MOST 1048576: true; the input reads as it did. -/
def srvWrongUptoRow : OpenClaim := { program := "ytlipmlbijddopaagreatdoor", sum := "2af91ab59a93e797986d3e96c3f440d5a01d045baaeca20a9fcaaad70f05d2ef", func := "gauger/gaugerlaw18.SrvWrong", spec := "srvWrong", inPlace := ["internal/abi.NoEscape", "internal/bytealg.MakeNoZero"], unfollowed := true, recurses := true, named := ["internal/strconv.uint64pow10", "math/bits.deBruijn32tab", "math/bits.deBruijn64tab"], apart := false, laid := [("math/bits.deBruijn32tab", laid_math_bits_deBruijn32tab), ("math/bits.deBruijn64tab", laid_math_bits_deBruijn64tab), ("internal/strconv.uint64pow10", laid_internal_strconv_uint64pow10)], narrowed := true }
def SrvWrongUptoSaid : Prop := srvWrongUptoRow.holds Tryz.pinned (OpenSpec.upto srvWrongSpec)

/-- 'gaugerlaw18.SrvBack', WHERE WHAT IT READS IS OF BULK AT MOST 1048576: true; the input reads as it did. -/
def srvBackUptoRow : OpenClaim := { program := "ytlipmlbijddopaagreatdoor", sum := "2af91ab59a93e797986d3e96c3f440d5a01d045baaeca20a9fcaaad70f05d2ef", func := "gauger/gaugerlaw18.SrvBack", spec := "srvBack", inPlace := ["internal/abi.NoEscape", "internal/bytealg.MakeNoZero"], unfollowed := true, recurses := true, named := ["internal/strconv.uint64pow10", "math/bits.deBruijn32tab", "math/bits.deBruijn64tab"], apart := false, laid := [("math/bits.deBruijn32tab", laid_math_bits_deBruijn32tab), ("math/bits.deBruijn64tab", laid_math_bits_deBruijn64tab), ("internal/strconv.uint64pow10", laid_internal_strconv_uint64pow10)], narrowed := true }
def SrvBackUptoSaid : Prop := srvBackUptoRow.holds Tryz.pinned (OpenSpec.upto srvBackSpec)

end Rows
end Go.Proofs.YtlipmlbijddopaaGreatDoor
