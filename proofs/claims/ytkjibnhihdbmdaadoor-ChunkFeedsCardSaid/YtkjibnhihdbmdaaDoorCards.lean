/-
  DERIVED. GIVEN WITH THE SEED: THE CARDS: each row of YtkjibnhihdbmdaaDoorRows.lean that lists a variable, with what it lists TIED to the program's text (the seventh form; the later family's looks); each row that meets fmt, with fmt's text TOLD by the authors' own Lean function (tested against real Go, not proved from fmt's source: count such statements apart). THE CARD IS WHAT COUNTS. Prove the row's statement (the work); the ties are given (YtkjibnhihdbmdaaDoorTie.lean); close each card by the builder's one call (the guide's Derived/Test/ToyasCard.lean, 'card_holds'). Laid BY PROGRAM, IN A SANDBOX (cutbox-door.mjs). By AI agents, Wed Nov 11 2026. No macro, syntax, notation, axiom, sorry.
-/
import Derived.Test.YtkjibnhihdbmdaaDoorRows
import GoSem.ClaimSeven
namespace Go.Proofs.YtkjibnhihdbmdaaDoor
namespace Rows

/-- THE TIED CARD OF 'gaugerlaw19.ChunkDecodes'. -/
def chunkDecodesCard : Claim7 := { stood := { row := chunkDecodesRow, standIns := [], harness := (true, "ea098ffc8f5926e175775a274825f490eddfda3c579d958e07273ca7f3c700e8"), looks := false }, kinds := [], alts := [], laidByText := true, laidKinds := [.data, .data, .data, .data, .pinned], laidTests := true, laidLooks := .later }
def ChunkDecodesCardSaid : Prop := Claim7.holds Tryd.pinned (.plain (OpenSpec.ofChange chunkDecodesSpec)) chunkDecodesCard

/-- THE TIED CARD OF 'gaugerlaw19.ChunkEncodes'. -/
def chunkEncodesCard : Claim7 := { stood := { row := chunkEncodesRow, standIns := [], harness := (true, "ea098ffc8f5926e175775a274825f490eddfda3c579d958e07273ca7f3c700e8"), looks := false }, kinds := [], alts := [], laidByText := true, laidKinds := [.data, .data, .data, .data, .pinned], laidTests := true, laidLooks := .later }
def ChunkEncodesCardSaid : Prop := Claim7.holds Tryd.pinned (.plain (OpenSpec.ofChange chunkEncodesSpec)) chunkEncodesCard

/-- THE TIED CARD OF 'gaugerlaw19.ChunkBack'. -/
def chunkBackCard : Claim7 := { stood := { row := chunkBackRow, standIns := [], harness := (true, "ea098ffc8f5926e175775a274825f490eddfda3c579d958e07273ca7f3c700e8"), looks := false }, kinds := [], alts := [], laidByText := true, laidKinds := [.data, .data, .data, .data, .pinned], laidTests := true, laidLooks := .later }
def ChunkBackCardSaid : Prop := Claim7.holds Tryd.pinned (.plain (OpenSpec.ofChange chunkBackSpec)) chunkBackCard

/-- THE TIED CARD OF 'gaugerlaw19.ChunkWrong'. -/
def chunkWrongCard : Claim7 := { stood := { row := chunkWrongRow, standIns := [], harness := (true, "ea098ffc8f5926e175775a274825f490eddfda3c579d958e07273ca7f3c700e8"), looks := false }, kinds := [], alts := [], laidByText := true, laidKinds := [.data, .data, .data, .data, .pinned], laidTests := true, laidLooks := .later }
def ChunkWrongCardSaid : Prop := Claim7.holds Tryd.pinned (.plain (OpenSpec.ofChange chunkWrongSpec)) chunkWrongCard

/-- THE TIED CARD OF 'gaugerlaw19.ChunkFeeds'. -/
def chunkFeedsCard : Claim7 := { stood := { row := chunkFeedsRow, standIns := [], harness := (true, "ea098ffc8f5926e175775a274825f490eddfda3c579d958e07273ca7f3c700e8"), looks := false }, kinds := [], alts := [], laidByText := true, laidKinds := [.data, .data, .data, .data, .pinned], laidTests := true, laidLooks := .later }
def ChunkFeedsCardSaid : Prop := Claim7.holds Tryd.pinned (.plain (OpenSpec.ofChange chunkFeedsSpec)) chunkFeedsCard

/-- THE TIED CARD OF 'gaugerlaw19.ChunkCuts'. -/
def chunkCutsCard : Claim7 := { stood := { row := chunkCutsRow, standIns := [], harness := (true, "ea098ffc8f5926e175775a274825f490eddfda3c579d958e07273ca7f3c700e8"), looks := false }, kinds := [], alts := [], laidByText := true, laidKinds := [.data, .data, .data, .data, .pinned], laidTests := true, laidLooks := .later }
def ChunkCutsCardSaid : Prop := Claim7.holds Tryd.pinned (.plain (OpenSpec.ofChange chunkCutsSpec)) chunkCutsCard

/-- THE TIED CARD OF 'gaugerlaw19.ChunkPrefix'. -/
def chunkPrefixCard : Claim7 := { stood := { row := chunkPrefixRow, standIns := [], harness := (true, "ea098ffc8f5926e175775a274825f490eddfda3c579d958e07273ca7f3c700e8"), looks := false }, kinds := [], alts := [], laidByText := true, laidKinds := [.data, .data, .data, .data, .pinned], laidTests := true, laidLooks := .later }
def ChunkPrefixCardSaid : Prop := Claim7.holds Tryd.pinned (.plain (OpenSpec.ofChange chunkPrefixSpec)) chunkPrefixCard

/-- THE TIED CARD OF 'gaugerlaw19.ChunkShort'. -/
def chunkShortCard : Claim7 := { stood := { row := chunkShortRow, standIns := [], harness := (true, "ea098ffc8f5926e175775a274825f490eddfda3c579d958e07273ca7f3c700e8"), looks := false }, kinds := [], alts := [], laidByText := true, laidKinds := [.data, .data, .data, .data, .pinned], laidTests := true, laidLooks := .later }
def ChunkShortCardSaid : Prop := Claim7.holds Tryd.pinned (.plain (OpenSpec.ofChange chunkShortSpec)) chunkShortCard

/-- THE TIED CARD OF 'gaugerlaw19.ChunkSmall'. -/
def chunkSmallCard : Claim7 := { stood := { row := chunkSmallRow, standIns := [], harness := (true, "ea098ffc8f5926e175775a274825f490eddfda3c579d958e07273ca7f3c700e8"), looks := false }, kinds := [], alts := [], laidByText := true, laidKinds := [.data, .data, .data, .data, .pinned], laidTests := true, laidLooks := .later }
def ChunkSmallCardSaid : Prop := Claim7.holds Tryd.pinned (.plain (OpenSpec.ofChange chunkSmallSpec)) chunkSmallCard

/-- THE SECOND FORM's CARD OF 'gaugerlaw19.ChunkDecodes'. -/
def chunkDecodesUptoCard : Claim7 := { stood := { row := chunkDecodesUptoRow, standIns := [], harness := (true, "ea098ffc8f5926e175775a274825f490eddfda3c579d958e07273ca7f3c700e8"), looks := false }, kinds := [], alts := [], laidByText := true, laidKinds := [.data, .data, .data, .data, .pinned], laidTests := true, laidLooks := .later }
def ChunkDecodesUptoCardSaid : Prop := Claim7.holds Tryd.pinned (.plain (OpenSpec.upto chunkDecodesSpec)) chunkDecodesUptoCard

/-- THE SECOND FORM's CARD OF 'gaugerlaw19.ChunkEncodes'. -/
def chunkEncodesUptoCard : Claim7 := { stood := { row := chunkEncodesUptoRow, standIns := [], harness := (true, "ea098ffc8f5926e175775a274825f490eddfda3c579d958e07273ca7f3c700e8"), looks := false }, kinds := [], alts := [], laidByText := true, laidKinds := [.data, .data, .data, .data, .pinned], laidTests := true, laidLooks := .later }
def ChunkEncodesUptoCardSaid : Prop := Claim7.holds Tryd.pinned (.plain (OpenSpec.upto chunkEncodesSpec)) chunkEncodesUptoCard

/-- THE SECOND FORM's CARD OF 'gaugerlaw19.ChunkBack'. -/
def chunkBackUptoCard : Claim7 := { stood := { row := chunkBackUptoRow, standIns := [], harness := (true, "ea098ffc8f5926e175775a274825f490eddfda3c579d958e07273ca7f3c700e8"), looks := false }, kinds := [], alts := [], laidByText := true, laidKinds := [.data, .data, .data, .data, .pinned], laidTests := true, laidLooks := .later }
def ChunkBackUptoCardSaid : Prop := Claim7.holds Tryd.pinned (.plain (OpenSpec.upto chunkBackSpec)) chunkBackUptoCard

/-- THE SECOND FORM's CARD OF 'gaugerlaw19.ChunkWrong'. -/
def chunkWrongUptoCard : Claim7 := { stood := { row := chunkWrongUptoRow, standIns := [], harness := (true, "ea098ffc8f5926e175775a274825f490eddfda3c579d958e07273ca7f3c700e8"), looks := false }, kinds := [], alts := [], laidByText := true, laidKinds := [.data, .data, .data, .data, .pinned], laidTests := true, laidLooks := .later }
def ChunkWrongUptoCardSaid : Prop := Claim7.holds Tryd.pinned (.plain (OpenSpec.upto chunkWrongSpec)) chunkWrongUptoCard

/-- THE SECOND FORM's CARD OF 'gaugerlaw19.ChunkFeeds'. -/
def chunkFeedsUptoCard : Claim7 := { stood := { row := chunkFeedsUptoRow, standIns := [], harness := (true, "ea098ffc8f5926e175775a274825f490eddfda3c579d958e07273ca7f3c700e8"), looks := false }, kinds := [], alts := [], laidByText := true, laidKinds := [.data, .data, .data, .data, .pinned], laidTests := true, laidLooks := .later }
def ChunkFeedsUptoCardSaid : Prop := Claim7.holds Tryd.pinned (.plain (OpenSpec.upto chunkFeedsSpec)) chunkFeedsUptoCard

/-- THE SECOND FORM's CARD OF 'gaugerlaw19.ChunkCuts'. -/
def chunkCutsUptoCard : Claim7 := { stood := { row := chunkCutsUptoRow, standIns := [], harness := (true, "ea098ffc8f5926e175775a274825f490eddfda3c579d958e07273ca7f3c700e8"), looks := false }, kinds := [], alts := [], laidByText := true, laidKinds := [.data, .data, .data, .data, .pinned], laidTests := true, laidLooks := .later }
def ChunkCutsUptoCardSaid : Prop := Claim7.holds Tryd.pinned (.plain (OpenSpec.upto chunkCutsSpec)) chunkCutsUptoCard

/-- THE SECOND FORM's CARD OF 'gaugerlaw19.ChunkPrefix'. -/
def chunkPrefixUptoCard : Claim7 := { stood := { row := chunkPrefixUptoRow, standIns := [], harness := (true, "ea098ffc8f5926e175775a274825f490eddfda3c579d958e07273ca7f3c700e8"), looks := false }, kinds := [], alts := [], laidByText := true, laidKinds := [.data, .data, .data, .data, .pinned], laidTests := true, laidLooks := .later }
def ChunkPrefixUptoCardSaid : Prop := Claim7.holds Tryd.pinned (.plain (OpenSpec.upto chunkPrefixSpec)) chunkPrefixUptoCard

/-- THE SECOND FORM's CARD OF 'gaugerlaw19.ChunkShort'. -/
def chunkShortUptoCard : Claim7 := { stood := { row := chunkShortUptoRow, standIns := [], harness := (true, "ea098ffc8f5926e175775a274825f490eddfda3c579d958e07273ca7f3c700e8"), looks := false }, kinds := [], alts := [], laidByText := true, laidKinds := [.data, .data, .data, .data, .pinned], laidTests := true, laidLooks := .later }
def ChunkShortUptoCardSaid : Prop := Claim7.holds Tryd.pinned (.plain (OpenSpec.upto chunkShortSpec)) chunkShortUptoCard

/-- THE SECOND FORM's CARD OF 'gaugerlaw19.ChunkSmall'. -/
def chunkSmallUptoCard : Claim7 := { stood := { row := chunkSmallUptoRow, standIns := [], harness := (true, "ea098ffc8f5926e175775a274825f490eddfda3c579d958e07273ca7f3c700e8"), looks := false }, kinds := [], alts := [], laidByText := true, laidKinds := [.data, .data, .data, .data, .pinned], laidTests := true, laidLooks := .later }
def ChunkSmallUptoCardSaid : Prop := Claim7.holds Tryd.pinned (.plain (OpenSpec.upto chunkSmallSpec)) chunkSmallUptoCard
end Rows
end Go.Proofs.YtkjibnhihdbmdaaDoor
