/-
  DERIVED. GIVEN WITH THE SEED: THE CARDS: each row of YtlipmlbijddopaaGreatDoorRows.lean that lists a variable, with what it lists TIED to the program's text (the seventh form; the later family's looks); each row that meets fmt, with fmt's text TOLD by the authors' own Lean function (tested against real Go, not proved from fmt's source: count such statements apart). THE CARD IS WHAT COUNTS. Prove the row's statement (the work); the ties are given (YtlipmlbijddopaaGreatDoorTie.lean); close each card by the builder's one call (the guide's Derived/Test/ToyasCard.lean, 'card_holds'). Laid BY PROGRAM, IN A SANDBOX (cutbox-door.mjs). By AI agents, Wed Nov 11 2026. No macro, syntax, notation, axiom, sorry.
-/
import Derived.Test.YtlipmlbijddopaaGreatDoorRows
import GoSem.ClaimSeven
namespace Go.Proofs.YtlipmlbijddopaaGreatDoor
namespace Rows

/-- THE TIED CARD OF 'gaugerlaw18.SrvTakes'. -/
def srvTakesCard : Claim7 := { stood := { row := srvTakesRow, standIns := [], harness := (true, "62a6199dd28d2a080bed368305dcb87b9b8d93dca5598cd0c61d1c0b6c630e34"), looks := false }, kinds := [], alts := [], laidByText := true, laidKinds := [.data, .data, .data], laidTests := true, laidLooks := .later }
def SrvTakesCardSaid : Prop := Claim7.holds Tryz.pinned (.plain (OpenSpec.ofChange srvTakesSpec)) srvTakesCard

/-- THE TIED CARD OF 'gaugerlaw18.SrvAsks'. -/
def srvAsksCard : Claim7 := { stood := { row := srvAsksRow, standIns := [], harness := (true, "62a6199dd28d2a080bed368305dcb87b9b8d93dca5598cd0c61d1c0b6c630e34"), looks := false }, kinds := [], alts := [], laidByText := true, laidKinds := [.data, .data, .data], laidTests := true, laidLooks := .later }
def SrvAsksCardSaid : Prop := Claim7.holds Tryz.pinned (.plain (OpenSpec.ofChange srvAsksSpec)) srvAsksCard

/-- THE TIED CARD OF 'gaugerlaw18.SrvLists'. -/
def srvListsCard : Claim7 := { stood := { row := srvListsRow, standIns := [], harness := (true, "62a6199dd28d2a080bed368305dcb87b9b8d93dca5598cd0c61d1c0b6c630e34"), looks := false }, kinds := [], alts := [], laidByText := true, laidKinds := [.data, .data, .data], laidTests := true, laidLooks := .later }
def SrvListsCardSaid : Prop := Claim7.holds Tryz.pinned (.plain (OpenSpec.ofChange srvListsSpec)) srvListsCard

/-- THE TIED CARD OF 'gaugerlaw18.SrvSmall'. -/
def srvSmallCard : Claim7 := { stood := { row := srvSmallRow, standIns := [], harness := (true, "62a6199dd28d2a080bed368305dcb87b9b8d93dca5598cd0c61d1c0b6c630e34"), looks := false }, kinds := [], alts := [], laidByText := true, laidKinds := [.data, .data, .data], laidTests := true, laidLooks := .later }
def SrvSmallCardSaid : Prop := Claim7.holds Tryz.pinned (.plain (OpenSpec.ofChange srvSmallSpec)) srvSmallCard

/-- THE TIED CARD OF 'gaugerlaw18.SrvPicks'. -/
def srvPicksCard : Claim7 := { stood := { row := srvPicksRow, standIns := [], harness := (true, "62a6199dd28d2a080bed368305dcb87b9b8d93dca5598cd0c61d1c0b6c630e34"), looks := false }, kinds := [], alts := [], laidByText := true, laidKinds := [.data, .data, .data], laidTests := true, laidLooks := .later }
def SrvPicksCardSaid : Prop := Claim7.holds Tryz.pinned (.plain (OpenSpec.ofChange srvPicksSpec)) srvPicksCard

/-- THE TIED CARD OF 'gaugerlaw18.SrvTiers'. -/
def srvTiersCard : Claim7 := { stood := { row := srvTiersRow, standIns := [], harness := (true, "62a6199dd28d2a080bed368305dcb87b9b8d93dca5598cd0c61d1c0b6c630e34"), looks := false }, kinds := [], alts := [], laidByText := true, laidKinds := [.data, .data, .data], laidTests := true, laidLooks := .later }
def SrvTiersCardSaid : Prop := Claim7.holds Tryz.pinned (.plain (OpenSpec.ofChange srvTiersSpec)) srvTiersCard

/-- THE TIED CARD OF 'gaugerlaw18.SrvAsked'. -/
def srvAskedCard : Claim7 := { stood := { row := srvAskedRow, standIns := [], harness := (true, "62a6199dd28d2a080bed368305dcb87b9b8d93dca5598cd0c61d1c0b6c630e34"), looks := false }, kinds := [], alts := [], laidByText := true, laidKinds := [.data, .data, .data], laidTests := true, laidLooks := .later }
def SrvAskedCardSaid : Prop := Claim7.holds Tryz.pinned (.plain (OpenSpec.ofChange srvAskedSpec)) srvAskedCard

/-- THE TIED CARD OF 'gaugerlaw18.SrvSame'. -/
def srvSameCard : Claim7 := { stood := { row := srvSameRow, standIns := [], harness := (true, "62a6199dd28d2a080bed368305dcb87b9b8d93dca5598cd0c61d1c0b6c630e34"), looks := false }, kinds := [], alts := [], laidByText := true, laidKinds := [.data, .data, .data], laidTests := true, laidLooks := .later }
def SrvSameCardSaid : Prop := Claim7.holds Tryz.pinned (.plain (OpenSpec.ofChange srvSameSpec)) srvSameCard

/-- THE TIED CARD OF 'gaugerlaw18.SrvWrong'. -/
def srvWrongCard : Claim7 := { stood := { row := srvWrongRow, standIns := [], harness := (true, "62a6199dd28d2a080bed368305dcb87b9b8d93dca5598cd0c61d1c0b6c630e34"), looks := false }, kinds := [], alts := [], laidByText := true, laidKinds := [.data, .data, .data], laidTests := true, laidLooks := .later }
def SrvWrongCardSaid : Prop := Claim7.holds Tryz.pinned (.plain (OpenSpec.ofChange srvWrongSpec)) srvWrongCard

/-- THE TIED CARD OF 'gaugerlaw18.SrvBack'. -/
def srvBackCard : Claim7 := { stood := { row := srvBackRow, standIns := [], harness := (true, "62a6199dd28d2a080bed368305dcb87b9b8d93dca5598cd0c61d1c0b6c630e34"), looks := false }, kinds := [], alts := [], laidByText := true, laidKinds := [.data, .data, .data], laidTests := true, laidLooks := .later }
def SrvBackCardSaid : Prop := Claim7.holds Tryz.pinned (.plain (OpenSpec.ofChange srvBackSpec)) srvBackCard

/-- THE SECOND FORM's CARD OF 'gaugerlaw18.SrvTakes'. -/
def srvTakesUptoCard : Claim7 := { stood := { row := srvTakesUptoRow, standIns := [], harness := (true, "62a6199dd28d2a080bed368305dcb87b9b8d93dca5598cd0c61d1c0b6c630e34"), looks := false }, kinds := [], alts := [], laidByText := true, laidKinds := [.data, .data, .data], laidTests := true, laidLooks := .later }
def SrvTakesUptoCardSaid : Prop := Claim7.holds Tryz.pinned (.plain (OpenSpec.upto srvTakesSpec)) srvTakesUptoCard

/-- THE SECOND FORM's CARD OF 'gaugerlaw18.SrvAsks'. -/
def srvAsksUptoCard : Claim7 := { stood := { row := srvAsksUptoRow, standIns := [], harness := (true, "62a6199dd28d2a080bed368305dcb87b9b8d93dca5598cd0c61d1c0b6c630e34"), looks := false }, kinds := [], alts := [], laidByText := true, laidKinds := [.data, .data, .data], laidTests := true, laidLooks := .later }
def SrvAsksUptoCardSaid : Prop := Claim7.holds Tryz.pinned (.plain (OpenSpec.upto srvAsksSpec)) srvAsksUptoCard

/-- THE SECOND FORM's CARD OF 'gaugerlaw18.SrvLists'. -/
def srvListsUptoCard : Claim7 := { stood := { row := srvListsUptoRow, standIns := [], harness := (true, "62a6199dd28d2a080bed368305dcb87b9b8d93dca5598cd0c61d1c0b6c630e34"), looks := false }, kinds := [], alts := [], laidByText := true, laidKinds := [.data, .data, .data], laidTests := true, laidLooks := .later }
def SrvListsUptoCardSaid : Prop := Claim7.holds Tryz.pinned (.plain (OpenSpec.upto srvListsSpec)) srvListsUptoCard

/-- THE SECOND FORM's CARD OF 'gaugerlaw18.SrvSmall'. -/
def srvSmallUptoCard : Claim7 := { stood := { row := srvSmallUptoRow, standIns := [], harness := (true, "62a6199dd28d2a080bed368305dcb87b9b8d93dca5598cd0c61d1c0b6c630e34"), looks := false }, kinds := [], alts := [], laidByText := true, laidKinds := [.data, .data, .data], laidTests := true, laidLooks := .later }
def SrvSmallUptoCardSaid : Prop := Claim7.holds Tryz.pinned (.plain (OpenSpec.upto srvSmallSpec)) srvSmallUptoCard

/-- THE SECOND FORM's CARD OF 'gaugerlaw18.SrvPicks'. -/
def srvPicksUptoCard : Claim7 := { stood := { row := srvPicksUptoRow, standIns := [], harness := (true, "62a6199dd28d2a080bed368305dcb87b9b8d93dca5598cd0c61d1c0b6c630e34"), looks := false }, kinds := [], alts := [], laidByText := true, laidKinds := [.data, .data, .data], laidTests := true, laidLooks := .later }
def SrvPicksUptoCardSaid : Prop := Claim7.holds Tryz.pinned (.plain (OpenSpec.upto srvPicksSpec)) srvPicksUptoCard

/-- THE SECOND FORM's CARD OF 'gaugerlaw18.SrvTiers'. -/
def srvTiersUptoCard : Claim7 := { stood := { row := srvTiersUptoRow, standIns := [], harness := (true, "62a6199dd28d2a080bed368305dcb87b9b8d93dca5598cd0c61d1c0b6c630e34"), looks := false }, kinds := [], alts := [], laidByText := true, laidKinds := [.data, .data, .data], laidTests := true, laidLooks := .later }
def SrvTiersUptoCardSaid : Prop := Claim7.holds Tryz.pinned (.plain (OpenSpec.upto srvTiersSpec)) srvTiersUptoCard

/-- THE SECOND FORM's CARD OF 'gaugerlaw18.SrvAsked'. -/
def srvAskedUptoCard : Claim7 := { stood := { row := srvAskedUptoRow, standIns := [], harness := (true, "62a6199dd28d2a080bed368305dcb87b9b8d93dca5598cd0c61d1c0b6c630e34"), looks := false }, kinds := [], alts := [], laidByText := true, laidKinds := [.data, .data, .data], laidTests := true, laidLooks := .later }
def SrvAskedUptoCardSaid : Prop := Claim7.holds Tryz.pinned (.plain (OpenSpec.upto srvAskedSpec)) srvAskedUptoCard

/-- THE SECOND FORM's CARD OF 'gaugerlaw18.SrvSame'. -/
def srvSameUptoCard : Claim7 := { stood := { row := srvSameUptoRow, standIns := [], harness := (true, "62a6199dd28d2a080bed368305dcb87b9b8d93dca5598cd0c61d1c0b6c630e34"), looks := false }, kinds := [], alts := [], laidByText := true, laidKinds := [.data, .data, .data], laidTests := true, laidLooks := .later }
def SrvSameUptoCardSaid : Prop := Claim7.holds Tryz.pinned (.plain (OpenSpec.upto srvSameSpec)) srvSameUptoCard

/-- THE SECOND FORM's CARD OF 'gaugerlaw18.SrvWrong'. -/
def srvWrongUptoCard : Claim7 := { stood := { row := srvWrongUptoRow, standIns := [], harness := (true, "62a6199dd28d2a080bed368305dcb87b9b8d93dca5598cd0c61d1c0b6c630e34"), looks := false }, kinds := [], alts := [], laidByText := true, laidKinds := [.data, .data, .data], laidTests := true, laidLooks := .later }
def SrvWrongUptoCardSaid : Prop := Claim7.holds Tryz.pinned (.plain (OpenSpec.upto srvWrongSpec)) srvWrongUptoCard

/-- THE SECOND FORM's CARD OF 'gaugerlaw18.SrvBack'. -/
def srvBackUptoCard : Claim7 := { stood := { row := srvBackUptoRow, standIns := [], harness := (true, "62a6199dd28d2a080bed368305dcb87b9b8d93dca5598cd0c61d1c0b6c630e34"), looks := false }, kinds := [], alts := [], laidByText := true, laidKinds := [.data, .data, .data], laidTests := true, laidLooks := .later }
def SrvBackUptoCardSaid : Prop := Claim7.holds Tryz.pinned (.plain (OpenSpec.upto srvBackSpec)) srvBackUptoCard
end Rows
end Go.Proofs.YtlipmlbijddopaaGreatDoor
