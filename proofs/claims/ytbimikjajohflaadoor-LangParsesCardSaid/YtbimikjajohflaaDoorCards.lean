/-
  DERIVED. GIVEN WITH THE SEED: THE CARDS: each row of YtbimikjajohflaaDoorRows.lean that lists a variable, with what it lists TIED to the program's text (the seventh form; the later family's looks); each row that meets fmt, with fmt's text TOLD by the authors' own Lean function (tested against real Go, not proved from fmt's source: count such statements apart). THE CARD IS WHAT COUNTS. Prove the row's statement (the work); the ties are given (YtbimikjajohflaaDoorTie.lean); close each card by the builder's one call (the guide's Derived/Test/ToyasCard.lean, 'card_holds'). Laid BY PROGRAM, IN A SANDBOX (cutbox-door.mjs). By AI agents, Wed Nov 11 2026. No macro, syntax, notation, axiom, sorry.
-/
import Derived.Test.YtbimikjajohflaaDoorRows
import GoSem.ClaimSeven
namespace Go.Proofs.YtbimikjajohflaaDoor
namespace Rows

/-- THE TIED CARD OF 'shuntlaw18.LangPrints'. -/
def langPrintsCard : Claim7 := { stood := { row := langPrintsRow, standIns := [], harness := (true, "256016b01442decc1585e04d2a8c5061afdfc48d681687efa449832eaad83e56"), looks := true }, kinds := [], alts := [], laidByText := true, laidKinds := [.data, .data, .data], laidTests := true, laidLooks := .later }
def LangPrintsCardSaid : Prop := Claim7.holds Tryd.pinned (.plain (OpenSpec.ofChange langPrintsSpec)) langPrintsCard

/-- THE TIED CARD OF 'shuntlaw18.LangParses'. -/
def langParsesCard : Claim7 := { stood := { row := langParsesRow, standIns := [], harness := (true, "256016b01442decc1585e04d2a8c5061afdfc48d681687efa449832eaad83e56"), looks := true }, kinds := [], alts := [], laidByText := true, laidKinds := [.data, .data, .data, .sentinel, .sentinel], laidTests := true, laidLooks := .later }
def LangParsesCardSaid : Prop := Claim7.holds Tryd.pinned (.plain (OpenSpec.ofChange langParsesSpec)) langParsesCard

/-- THE TIED CARD OF 'shuntlaw18.LangBack'. -/
def langBackCard : Claim7 := { stood := { row := langBackRow, standIns := [], harness := (true, "256016b01442decc1585e04d2a8c5061afdfc48d681687efa449832eaad83e56"), looks := true }, kinds := [], alts := [], laidByText := true, laidKinds := [.data, .data, .data, .sentinel, .sentinel], laidTests := true, laidLooks := .later }
def LangBackCardSaid : Prop := Claim7.holds Tryd.pinned (.plain (OpenSpec.ofChange langBackSpec)) langBackCard

/-- THE TIED CARD OF 'shuntlaw18.LangSettles'. -/
def langSettlesCard : Claim7 := { stood := { row := langSettlesRow, standIns := [], harness := (true, "256016b01442decc1585e04d2a8c5061afdfc48d681687efa449832eaad83e56"), looks := true }, kinds := [], alts := [], laidByText := true, laidKinds := [.data, .data, .data, .sentinel, .sentinel], laidTests := true, laidLooks := .later }
def LangSettlesCardSaid : Prop := Claim7.holds Tryd.pinned (.plain (OpenSpec.ofChange langSettlesSpec)) langSettlesCard

/-- THE TIED CARD OF 'shuntlaw19.MeanRuns'. -/
def meanRunsCard : Claim7 := { stood := { row := meanRunsRow, standIns := [], harness := (true, "256016b01442decc1585e04d2a8c5061afdfc48d681687efa449832eaad83e56"), looks := true }, kinds := [], alts := [], laidByText := true, laidKinds := [.data, .data, .data], laidTests := true, laidLooks := .later }
def MeanRunsCardSaid : Prop := Claim7.holds Tryd.pinned (.plain (OpenSpec.ofChange meanRunsSpec)) meanRunsCard

/-- THE TIED CARD OF 'shuntlaw19.MeanParts'. -/
def meanPartsCard : Claim7 := { stood := { row := meanPartsRow, standIns := [], harness := (true, "256016b01442decc1585e04d2a8c5061afdfc48d681687efa449832eaad83e56"), looks := true }, kinds := [], alts := [], laidByText := true, laidKinds := [.data, .data, .data], laidTests := true, laidLooks := .later }
def MeanPartsCardSaid : Prop := Claim7.holds Tryd.pinned (.plain (OpenSpec.ofChange meanPartsSpec)) meanPartsCard

/-- THE TIED CARD OF 'shuntlaw19.MeanFuel'. -/
def meanFuelCard : Claim7 := { stood := { row := meanFuelRow, standIns := [], harness := (true, "256016b01442decc1585e04d2a8c5061afdfc48d681687efa449832eaad83e56"), looks := true }, kinds := [], alts := [], laidByText := true, laidKinds := [.data, .data, .data, .sentinel, .sentinel], laidTests := true, laidLooks := .later }
def MeanFuelCardSaid : Prop := Claim7.holds Tryd.pinned (.plain (OpenSpec.ofChange meanFuelSpec)) meanFuelCard

/-- THE TIED CARD OF 'shuntlaw19.MeanLists'. -/
def meanListsCard : Claim7 := { stood := { row := meanListsRow, standIns := [], harness := (true, "256016b01442decc1585e04d2a8c5061afdfc48d681687efa449832eaad83e56"), looks := true }, kinds := [], alts := [], laidByText := true, laidKinds := [.data, .data, .data, .sentinel, .sentinel], laidTests := true, laidLooks := .later }
def MeanListsCardSaid : Prop := Claim7.holds Tryd.pinned (.plain (OpenSpec.ofChange meanListsSpec)) meanListsCard

/-- THE TIED CARD OF 'shuntlaw19.MeanStays'. -/
def meanStaysCard : Claim7 := { stood := { row := meanStaysRow, standIns := [], harness := (true, "256016b01442decc1585e04d2a8c5061afdfc48d681687efa449832eaad83e56"), looks := true }, kinds := [], alts := [], laidByText := true, laidKinds := [.data, .data, .data, .sentinel, .sentinel], laidTests := true, laidLooks := .later }
def MeanStaysCardSaid : Prop := Claim7.holds Tryd.pinned (.plain (OpenSpec.ofChange meanStaysSpec)) meanStaysCard

/-- THE TIED CARD OF 'shuntlaw21.CompTells'. -/
def compTellsCard : Claim7 := { stood := { row := compTellsRow, standIns := [], harness := (true, "256016b01442decc1585e04d2a8c5061afdfc48d681687efa449832eaad83e56"), looks := true }, kinds := [], alts := [], laidByText := true, laidKinds := [.data, .data, .data], laidTests := true, laidLooks := .later }
def CompTellsCardSaid : Prop := Claim7.holds Tryd.pinned (.plain (OpenSpec.ofChange compTellsSpec)) compTellsCard

/-- THE SECOND FORM's CARD OF 'shuntlaw18.LangPrints'. -/
def langPrintsUptoCard : Claim7 := { stood := { row := langPrintsUptoRow, standIns := [], harness := (true, "256016b01442decc1585e04d2a8c5061afdfc48d681687efa449832eaad83e56"), looks := true }, kinds := [], alts := [], laidByText := true, laidKinds := [.data, .data, .data], laidTests := true, laidLooks := .later }
def LangPrintsUptoCardSaid : Prop := Claim7.holds Tryd.pinned (.plain (OpenSpec.upto langPrintsSpec)) langPrintsUptoCard

/-- THE SECOND FORM's CARD OF 'shuntlaw18.LangParses'. -/
def langParsesUptoCard : Claim7 := { stood := { row := langParsesUptoRow, standIns := [], harness := (true, "256016b01442decc1585e04d2a8c5061afdfc48d681687efa449832eaad83e56"), looks := true }, kinds := [], alts := [], laidByText := true, laidKinds := [.data, .data, .data, .sentinel, .sentinel], laidTests := true, laidLooks := .later }
def LangParsesUptoCardSaid : Prop := Claim7.holds Tryd.pinned (.plain (OpenSpec.upto langParsesSpec)) langParsesUptoCard

/-- THE SECOND FORM's CARD OF 'shuntlaw18.LangBack'. -/
def langBackUptoCard : Claim7 := { stood := { row := langBackUptoRow, standIns := [], harness := (true, "256016b01442decc1585e04d2a8c5061afdfc48d681687efa449832eaad83e56"), looks := true }, kinds := [], alts := [], laidByText := true, laidKinds := [.data, .data, .data, .sentinel, .sentinel], laidTests := true, laidLooks := .later }
def LangBackUptoCardSaid : Prop := Claim7.holds Tryd.pinned (.plain (OpenSpec.upto langBackSpec)) langBackUptoCard

/-- THE SECOND FORM's CARD OF 'shuntlaw18.LangSettles'. -/
def langSettlesUptoCard : Claim7 := { stood := { row := langSettlesUptoRow, standIns := [], harness := (true, "256016b01442decc1585e04d2a8c5061afdfc48d681687efa449832eaad83e56"), looks := true }, kinds := [], alts := [], laidByText := true, laidKinds := [.data, .data, .data, .sentinel, .sentinel], laidTests := true, laidLooks := .later }
def LangSettlesUptoCardSaid : Prop := Claim7.holds Tryd.pinned (.plain (OpenSpec.upto langSettlesSpec)) langSettlesUptoCard

/-- THE SECOND FORM's CARD OF 'shuntlaw19.MeanRuns'. -/
def meanRunsUptoCard : Claim7 := { stood := { row := meanRunsUptoRow, standIns := [], harness := (true, "256016b01442decc1585e04d2a8c5061afdfc48d681687efa449832eaad83e56"), looks := true }, kinds := [], alts := [], laidByText := true, laidKinds := [.data, .data, .data], laidTests := true, laidLooks := .later }
def MeanRunsUptoCardSaid : Prop := Claim7.holds Tryd.pinned (.plain (OpenSpec.upto meanRunsSpec)) meanRunsUptoCard

/-- THE SECOND FORM's CARD OF 'shuntlaw19.MeanParts'. -/
def meanPartsUptoCard : Claim7 := { stood := { row := meanPartsUptoRow, standIns := [], harness := (true, "256016b01442decc1585e04d2a8c5061afdfc48d681687efa449832eaad83e56"), looks := true }, kinds := [], alts := [], laidByText := true, laidKinds := [.data, .data, .data], laidTests := true, laidLooks := .later }
def MeanPartsUptoCardSaid : Prop := Claim7.holds Tryd.pinned (.plain (OpenSpec.upto meanPartsSpec)) meanPartsUptoCard

/-- THE SECOND FORM's CARD OF 'shuntlaw19.MeanFuel'. -/
def meanFuelUptoCard : Claim7 := { stood := { row := meanFuelUptoRow, standIns := [], harness := (true, "256016b01442decc1585e04d2a8c5061afdfc48d681687efa449832eaad83e56"), looks := true }, kinds := [], alts := [], laidByText := true, laidKinds := [.data, .data, .data, .sentinel, .sentinel], laidTests := true, laidLooks := .later }
def MeanFuelUptoCardSaid : Prop := Claim7.holds Tryd.pinned (.plain (OpenSpec.upto meanFuelSpec)) meanFuelUptoCard

/-- THE SECOND FORM's CARD OF 'shuntlaw19.MeanLists'. -/
def meanListsUptoCard : Claim7 := { stood := { row := meanListsUptoRow, standIns := [], harness := (true, "256016b01442decc1585e04d2a8c5061afdfc48d681687efa449832eaad83e56"), looks := true }, kinds := [], alts := [], laidByText := true, laidKinds := [.data, .data, .data, .sentinel, .sentinel], laidTests := true, laidLooks := .later }
def MeanListsUptoCardSaid : Prop := Claim7.holds Tryd.pinned (.plain (OpenSpec.upto meanListsSpec)) meanListsUptoCard

/-- THE SECOND FORM's CARD OF 'shuntlaw19.MeanStays'. -/
def meanStaysUptoCard : Claim7 := { stood := { row := meanStaysUptoRow, standIns := [], harness := (true, "256016b01442decc1585e04d2a8c5061afdfc48d681687efa449832eaad83e56"), looks := true }, kinds := [], alts := [], laidByText := true, laidKinds := [.data, .data, .data, .sentinel, .sentinel], laidTests := true, laidLooks := .later }
def MeanStaysUptoCardSaid : Prop := Claim7.holds Tryd.pinned (.plain (OpenSpec.upto meanStaysSpec)) meanStaysUptoCard

/-- THE SECOND FORM's CARD OF 'shuntlaw21.CompTells'. -/
def compTellsUptoCard : Claim7 := { stood := { row := compTellsUptoRow, standIns := [], harness := (true, "256016b01442decc1585e04d2a8c5061afdfc48d681687efa449832eaad83e56"), looks := true }, kinds := [], alts := [], laidByText := true, laidKinds := [.data, .data, .data], laidTests := true, laidLooks := .later }
def CompTellsUptoCardSaid : Prop := Claim7.holds Tryd.pinned (.plain (OpenSpec.upto compTellsSpec)) compTellsUptoCard
end Rows
end Go.Proofs.YtbimikjajohflaaDoor
