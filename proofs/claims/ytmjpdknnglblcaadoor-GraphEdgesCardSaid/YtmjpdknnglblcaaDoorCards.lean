/-
  DERIVED. GIVEN WITH THE SEED: THE CARDS: each row of YtmjpdknnglblcaaDoorRows.lean that lists a variable, with what it lists TIED to the program's text (the seventh form; the later family's looks); each row that meets fmt, with fmt's text TOLD by the authors' own Lean function (tested against real Go, not proved from fmt's source: count such statements apart). THE CARD IS WHAT COUNTS. Prove the row's statement (the work); the ties are given (YtmjpdknnglblcaaDoorTie.lean); close each card by the builder's one call (the guide's Derived/Test/ToyasCard.lean, 'card_holds'). Laid BY PROGRAM, IN A SANDBOX (cutbox-door.mjs). By AI agents, Wed Nov 11 2026. No macro, syntax, notation, axiom, sorry.
-/
import Derived.Test.YtmjpdknnglblcaaDoorRows
import GoSem.ClaimSeven
namespace Go.Proofs.YtmjpdknnglblcaaDoor
namespace Rows

/-- THE TIED CARD OF 'tabularylaw33.GraphSplits'. -/
def graphSplitsCard : Claim7 := { stood := { row := graphSplitsRow, standIns := [], harness := (true, "6fb34c994b1dd3c720c64672026b6df6c86ea2b00599c579ad826d80fef7138a"), looks := false }, kinds := [], alts := [], laidByText := true, laidKinds := [.data], laidTests := true, laidLooks := .later }
def GraphSplitsCardSaid : Prop := Claim7.holds Tryd.pinned (.plain (OpenSpec.ofChange graphSplitsSpec)) graphSplitsCard

/-- THE TIED CARD OF 'tabularylaw33.GraphSets'. -/
def graphSetsCard : Claim7 := { stood := { row := graphSetsRow, standIns := [], harness := (true, "6fb34c994b1dd3c720c64672026b6df6c86ea2b00599c579ad826d80fef7138a"), looks := false }, kinds := [], alts := [], laidByText := true, laidKinds := [.data], laidTests := true, laidLooks := .later }
def GraphSetsCardSaid : Prop := Claim7.holds Tryd.pinned (.plain (OpenSpec.ofChange graphSetsSpec)) graphSetsCard

/-- THE TIED CARD OF 'tabularylaw33.GraphParts'. -/
def graphPartsCard : Claim7 := { stood := { row := graphPartsRow, standIns := [], harness := (true, "6fb34c994b1dd3c720c64672026b6df6c86ea2b00599c579ad826d80fef7138a"), looks := false }, kinds := [], alts := [], laidByText := true, laidKinds := [.data], laidTests := true, laidLooks := .later }
def GraphPartsCardSaid : Prop := Claim7.holds Tryd.pinned (.plain (OpenSpec.ofChange graphPartsSpec)) graphPartsCard

/-- THE TIED CARD OF 'tabularylaw33.GraphEdges'. -/
def graphEdgesCard : Claim7 := { stood := { row := graphEdgesRow, standIns := [], harness := (true, "6fb34c994b1dd3c720c64672026b6df6c86ea2b00599c579ad826d80fef7138a"), looks := false }, kinds := [], alts := [], laidByText := true, laidKinds := [.data], laidTests := true, laidLooks := .later }
def GraphEdgesCardSaid : Prop := Claim7.holds Tryd.pinned (.plain (OpenSpec.ofChange graphEdgesSpec)) graphEdgesCard

/-- THE SECOND FORM's CARD OF 'tabularylaw33.GraphSplits'. -/
def graphSplitsUptoCard : Claim7 := { stood := { row := graphSplitsUptoRow, standIns := [], harness := (true, "6fb34c994b1dd3c720c64672026b6df6c86ea2b00599c579ad826d80fef7138a"), looks := false }, kinds := [], alts := [], laidByText := true, laidKinds := [.data], laidTests := true, laidLooks := .later }
def GraphSplitsUptoCardSaid : Prop := Claim7.holds Tryd.pinned (.plain (OpenSpec.upto graphSplitsSpec)) graphSplitsUptoCard

/-- THE SECOND FORM's CARD OF 'tabularylaw33.GraphSets'. -/
def graphSetsUptoCard : Claim7 := { stood := { row := graphSetsUptoRow, standIns := [], harness := (true, "6fb34c994b1dd3c720c64672026b6df6c86ea2b00599c579ad826d80fef7138a"), looks := false }, kinds := [], alts := [], laidByText := true, laidKinds := [.data], laidTests := true, laidLooks := .later }
def GraphSetsUptoCardSaid : Prop := Claim7.holds Tryd.pinned (.plain (OpenSpec.upto graphSetsSpec)) graphSetsUptoCard

/-- THE SECOND FORM's CARD OF 'tabularylaw33.GraphParts'. -/
def graphPartsUptoCard : Claim7 := { stood := { row := graphPartsUptoRow, standIns := [], harness := (true, "6fb34c994b1dd3c720c64672026b6df6c86ea2b00599c579ad826d80fef7138a"), looks := false }, kinds := [], alts := [], laidByText := true, laidKinds := [.data], laidTests := true, laidLooks := .later }
def GraphPartsUptoCardSaid : Prop := Claim7.holds Tryd.pinned (.plain (OpenSpec.upto graphPartsSpec)) graphPartsUptoCard

/-- THE SECOND FORM's CARD OF 'tabularylaw33.GraphEdges'. -/
def graphEdgesUptoCard : Claim7 := { stood := { row := graphEdgesUptoRow, standIns := [], harness := (true, "6fb34c994b1dd3c720c64672026b6df6c86ea2b00599c579ad826d80fef7138a"), looks := false }, kinds := [], alts := [], laidByText := true, laidKinds := [.data], laidTests := true, laidLooks := .later }
def GraphEdgesUptoCardSaid : Prop := Claim7.holds Tryd.pinned (.plain (OpenSpec.upto graphEdgesSpec)) graphEdgesUptoCard
end Rows
end Go.Proofs.YtmjpdknnglblcaaDoor
