/-
  DERIVED. GIVEN WITH THE SEED: THE CARDS: each row of YtbimikjajohflaaGreatDoorRows.lean that lists a variable, with what it lists TIED to the program's text (the seventh form; the later family's looks); each row that meets fmt, with fmt's text TOLD by the authors' own Lean function (tested against real Go, not proved from fmt's source: count such statements apart). THE CARD IS WHAT COUNTS. Prove the row's statement (the work); the ties are given (YtbimikjajohflaaGreatDoorTie.lean); close each card by the builder's one call (the guide's Derived/Test/ToyasCard.lean, 'card_holds'). Laid BY PROGRAM, IN A SANDBOX (cutbox-door.mjs). By AI agents, Wed Nov 11 2026. No macro, syntax, notation, axiom, sorry.
-/
import Derived.Test.YtbimikjajohflaaGreatDoorRows
import GoSem.ClaimSeven
namespace Go.Proofs.YtbimikjajohflaaGreatDoor
namespace Rows

/-- THE TIED CARD OF 'shuntlaw21.CompCodes'. -/
def compCodesCard : Claim7 := { stood := { row := compCodesRow, standIns := [], harness := (true, "a8eeb404c60807ddf99d86336f7911c6a054975508737ae6a6e8c38cbedb3a84"), looks := true }, kinds := [], alts := [], laidByText := true, laidKinds := [.data, .data, .data, .sentinel, .sentinel, .data], laidTests := true, laidLooks := .later }
def CompCodesCardSaid : Prop := Claim7.holds Tryz.pinned (.plain (OpenSpec.ofChange compCodesSpec)) compCodesCard

/-- THE TIED CARD OF 'shuntlaw21.CompSplits'. -/
def compSplitsCard : Claim7 := { stood := { row := compSplitsRow, standIns := [], harness := (true, "a8eeb404c60807ddf99d86336f7911c6a054975508737ae6a6e8c38cbedb3a84"), looks := true }, kinds := [], alts := [], laidByText := true, laidKinds := [.data, .data, .data, .sentinel, .sentinel, .data], laidTests := true, laidLooks := .later }
def CompSplitsCardSaid : Prop := Claim7.holds Tryz.pinned (.plain (OpenSpec.ofChange compSplitsSpec)) compSplitsCard

/-- THE TIED CARD OF 'shuntlaw21.CompMeans'. -/
def compMeansCard : Claim7 := { stood := { row := compMeansRow, standIns := [], harness := (true, "a8eeb404c60807ddf99d86336f7911c6a054975508737ae6a6e8c38cbedb3a84"), looks := true }, kinds := [], alts := [], laidByText := true, laidKinds := [.data, .data, .data, .sentinel, .sentinel, .data], laidTests := true, laidLooks := .later }
def CompMeansCardSaid : Prop := Claim7.holds Tryz.pinned (.plain (OpenSpec.ofChange compMeansSpec)) compMeansCard

/-- THE TIED CARD OF 'shuntlaw20.SoloOn'. -/
def soloOnCard : Claim7 := { stood := { row := soloOnRow, standIns := [], harness := (true, "a8eeb404c60807ddf99d86336f7911c6a054975508737ae6a6e8c38cbedb3a84"), looks := true }, kinds := [], alts := [], laidByText := true, laidKinds := [.data, .data, .data, .data, .sentinel, .sentinel, .data, .pinned], laidTests := true, laidLooks := .later }
def SoloOnCardSaid : Prop := Claim7.holds Tryz.pinned (.plain (OpenSpec.ofChange soloOnSpec)) soloOnCard

/-- THE SECOND FORM's CARD OF 'shuntlaw21.CompCodes'. -/
def compCodesUptoCard : Claim7 := { stood := { row := compCodesUptoRow, standIns := [], harness := (true, "a8eeb404c60807ddf99d86336f7911c6a054975508737ae6a6e8c38cbedb3a84"), looks := true }, kinds := [], alts := [], laidByText := true, laidKinds := [.data, .data, .data, .sentinel, .sentinel, .data], laidTests := true, laidLooks := .later }
def CompCodesUptoCardSaid : Prop := Claim7.holds Tryz.pinned (.plain (OpenSpec.upto compCodesSpec)) compCodesUptoCard

/-- THE SECOND FORM's CARD OF 'shuntlaw21.CompSplits'. -/
def compSplitsUptoCard : Claim7 := { stood := { row := compSplitsUptoRow, standIns := [], harness := (true, "a8eeb404c60807ddf99d86336f7911c6a054975508737ae6a6e8c38cbedb3a84"), looks := true }, kinds := [], alts := [], laidByText := true, laidKinds := [.data, .data, .data, .sentinel, .sentinel, .data], laidTests := true, laidLooks := .later }
def CompSplitsUptoCardSaid : Prop := Claim7.holds Tryz.pinned (.plain (OpenSpec.upto compSplitsSpec)) compSplitsUptoCard

/-- THE SECOND FORM's CARD OF 'shuntlaw21.CompMeans'. -/
def compMeansUptoCard : Claim7 := { stood := { row := compMeansUptoRow, standIns := [], harness := (true, "a8eeb404c60807ddf99d86336f7911c6a054975508737ae6a6e8c38cbedb3a84"), looks := true }, kinds := [], alts := [], laidByText := true, laidKinds := [.data, .data, .data, .sentinel, .sentinel, .data], laidTests := true, laidLooks := .later }
def CompMeansUptoCardSaid : Prop := Claim7.holds Tryz.pinned (.plain (OpenSpec.upto compMeansSpec)) compMeansUptoCard

/-- THE SECOND FORM's CARD OF 'shuntlaw20.SoloOn'. -/
def soloOnUptoCard : Claim7 := { stood := { row := soloOnUptoRow, standIns := [], harness := (true, "a8eeb404c60807ddf99d86336f7911c6a054975508737ae6a6e8c38cbedb3a84"), looks := true }, kinds := [], alts := [], laidByText := true, laidKinds := [.data, .data, .data, .data, .sentinel, .sentinel, .data, .pinned], laidTests := true, laidLooks := .later }
def SoloOnUptoCardSaid : Prop := Claim7.holds Tryz.pinned (.plain (OpenSpec.upto soloOnSpec)) soloOnUptoCard
end Rows
end Go.Proofs.YtbimikjajohflaaGreatDoor
