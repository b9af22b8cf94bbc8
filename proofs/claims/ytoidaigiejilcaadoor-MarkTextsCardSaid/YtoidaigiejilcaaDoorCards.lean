/-
  DERIVED. GIVEN WITH THE SEED: THE CARDS: each row of YtoidaigiejilcaaDoorRows.lean that lists a variable, with what it lists TIED to the program's text (the seventh form; the later family's looks); each row that meets fmt, with fmt's text TOLD by the authors' own Lean function (tested against real Go, not proved from fmt's source: count such statements apart). THE CARD IS WHAT COUNTS. Prove the row's statement (the work); the ties are given (YtoidaigiejilcaaDoorTie.lean); close each card by the builder's one call (the guide's Derived/Test/ToyasCard.lean, 'card_holds'). Laid BY PROGRAM, IN A SANDBOX (cutbox-door.mjs). By AI agents, Wed Nov 11 2026. No macro, syntax, notation, axiom, sorry.
-/
import Derived.Test.YtoidaigiejilcaaDoorRows
import GoSem.ClaimSeven
namespace Go.Proofs.YtoidaigiejilcaaDoor
namespace Rows

/-- THE TIED CARD OF 'mestalaw03.MarkWritten'. -/
def markWrittenCard : Claim7 := { stood := { row := markWrittenRow, standIns := [], harness := (true, "7b8bffd9a9190d6bc4d47be5dddf5618aceef474dc03c5db2700b8bab1a4285a"), looks := true }, kinds := [], alts := [], laidByText := true, laidKinds := [.data, .pinned], laidTests := true, laidLooks := .later }
def MarkWrittenCardSaid : Prop := Claim7.holds Tryd.pinned (.plain (OpenSpec.ofChange markWrittenSpec)) markWrittenCard

/-- THE TIED CARD OF 'mestalaw03.MarkTexts'. -/
def markTextsCard : Claim7 := { stood := { row := markTextsRow, standIns := [], harness := (true, "7b8bffd9a9190d6bc4d47be5dddf5618aceef474dc03c5db2700b8bab1a4285a"), looks := true }, kinds := [], alts := [], laidByText := true, laidKinds := [.data, .data, .data, .data, .pinned], laidTests := true, laidLooks := .later }
def MarkTextsCardSaid : Prop := Claim7.holds Tryd.pinned (.plain (OpenSpec.ofChange markTextsSpec)) markTextsCard

/-- THE SECOND FORM's CARD OF 'mestalaw03.MarkWritten'. -/
def markWrittenUptoCard : Claim7 := { stood := { row := markWrittenUptoRow, standIns := [], harness := (true, "7b8bffd9a9190d6bc4d47be5dddf5618aceef474dc03c5db2700b8bab1a4285a"), looks := true }, kinds := [], alts := [], laidByText := true, laidKinds := [.data, .pinned], laidTests := true, laidLooks := .later }
def MarkWrittenUptoCardSaid : Prop := Claim7.holds Tryd.pinned (.plain (OpenSpec.upto markWrittenSpec)) markWrittenUptoCard

/-- THE SECOND FORM's CARD OF 'mestalaw03.MarkTexts'. -/
def markTextsUptoCard : Claim7 := { stood := { row := markTextsUptoRow, standIns := [], harness := (true, "7b8bffd9a9190d6bc4d47be5dddf5618aceef474dc03c5db2700b8bab1a4285a"), looks := true }, kinds := [], alts := [], laidByText := true, laidKinds := [.data, .data, .data, .data, .pinned], laidTests := true, laidLooks := .later }
def MarkTextsUptoCardSaid : Prop := Claim7.holds Tryd.pinned (.plain (OpenSpec.upto markTextsSpec)) markTextsUptoCard
end Rows
end Go.Proofs.YtoidaigiejilcaaDoor
