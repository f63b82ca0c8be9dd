/-
  DERIVED. GIVEN WITH THE SEED: THE CARDS: each row of YtnfgcfljjmjmpaaDoorRows.lean that lists a variable, with what it lists TIED to the program's text (the seventh form; the later family's looks); each row that meets fmt, with fmt's text TOLD by the authors' own Lean function (tested against real Go, not proved from fmt's source: count such statements apart). THE CARD IS WHAT COUNTS. Prove the row's statement (the work); the ties are given (YtnfgcfljjmjmpaaDoorTie.lean); close each card by the builder's one call (the guide's Derived/Test/ToyasCard.lean, 'card_holds'). Laid BY PROGRAM, IN A SANDBOX (cutbox-door.mjs). By AI agents, Wed Nov 11 2026. No macro, syntax, notation, axiom, sorry.
-/
import Derived.Test.YtnfgcfljjmjmpaaDoorRows
import GoSem.ClaimSeven
namespace Go.Proofs.YtnfgcfljjmjmpaaDoor
namespace Rows

/-- THE TIED CARD OF 'gaugerlaw16.NameTexts'. -/
def nameTextsCard : Claim7 := { stood := { row := nameTextsRow, standIns := [], harness := (true, "cedcde4a3e623e0cc27390bf294fff180b8090320ad49a922247973829690e92"), looks := false }, kinds := [], alts := [], laidByText := true, laidKinds := [.data, .data, .data, .pinned, .pinned], laidTests := true, laidLooks := .later }
def NameTextsCardSaid : Prop := Claim7.holds Tryd.pinned (.plain (OpenSpec.ofChange nameTextsSpec)) nameTextsCard

/-- THE TIED CARD OF 'gaugerlaw16.NameWrong'. -/
def nameWrongCard : Claim7 := { stood := { row := nameWrongRow, standIns := [], harness := (true, "cedcde4a3e623e0cc27390bf294fff180b8090320ad49a922247973829690e92"), looks := false }, kinds := [], alts := [], laidByText := true, laidKinds := [.data, .pinned], laidTests := true, laidLooks := .later }
def NameWrongCardSaid : Prop := Claim7.holds Tryd.pinned (.plain (OpenSpec.ofChange nameWrongSpec)) nameWrongCard

/-- THE SECOND FORM's CARD OF 'gaugerlaw16.NameTexts'. -/
def nameTextsUptoCard : Claim7 := { stood := { row := nameTextsUptoRow, standIns := [], harness := (true, "cedcde4a3e623e0cc27390bf294fff180b8090320ad49a922247973829690e92"), looks := false }, kinds := [], alts := [], laidByText := true, laidKinds := [.data, .data, .data, .pinned, .pinned], laidTests := true, laidLooks := .later }
def NameTextsUptoCardSaid : Prop := Claim7.holds Tryd.pinned (.plain (OpenSpec.upto nameTextsSpec)) nameTextsUptoCard

/-- THE SECOND FORM's CARD OF 'gaugerlaw16.NameWrong'. -/
def nameWrongUptoCard : Claim7 := { stood := { row := nameWrongUptoRow, standIns := [], harness := (true, "cedcde4a3e623e0cc27390bf294fff180b8090320ad49a922247973829690e92"), looks := false }, kinds := [], alts := [], laidByText := true, laidKinds := [.data, .pinned], laidTests := true, laidLooks := .later }
def NameWrongUptoCardSaid : Prop := Claim7.holds Tryd.pinned (.plain (OpenSpec.upto nameWrongSpec)) nameWrongUptoCard
end Rows
end Go.Proofs.YtnfgcfljjmjmpaaDoor
