/-
  DERIVED. GIVEN WITH THE SEED: THE CARDS: each row of YtgjdmncoonceaaaGreatDoorRows.lean that lists a variable, with what it lists TIED to the program's text (the seventh form; the later family's looks); each row that meets fmt, with fmt's text TOLD by the authors' own Lean function (tested against real Go, not proved from fmt's source: count such statements apart). THE CARD IS WHAT COUNTS. Prove the row's statement (the work); the ties are given (YtgjdmncoonceaaaGreatDoorTie.lean); close each card by the builder's one call (the guide's Derived/Test/ToyasCard.lean, 'card_holds'). Laid BY PROGRAM, IN A SANDBOX (cutbox-door.mjs). By AI agents, Wed Nov 11 2026. No macro, syntax, notation, axiom, sorry.
-/
import Derived.Test.YtgjdmncoonceaaaGreatDoorRows
import GoSem.ClaimSeven
namespace Go.Proofs.YtgjdmncoonceaaaGreatDoor
namespace Rows

/-- THE TIED CARD OF 'shuntlaw28.ShrinkTells'. -/
def shrinkTellsCard : Claim7 := { stood := { row := shrinkTellsRow, standIns := [], harness := (true, "4fe68513d1c7624d4e44326306a3c6d89dd58ef8e5a45ec43c3402c281203ca8"), looks := false }, kinds := [], alts := [], laidByText := true, laidKinds := [.data], laidTests := true, laidLooks := .later }
def ShrinkTellsCardSaid : Prop := Claim7.holds Tryz.pinned (.plain (OpenSpec.ofChange shrinkTellsSpec)) shrinkTellsCard

/-- THE TIED CARD OF 'shuntlaw28.ShrinkLeaves'. -/
def shrinkLeavesCard : Claim7 := { stood := { row := shrinkLeavesRow, standIns := [], harness := (true, "4fe68513d1c7624d4e44326306a3c6d89dd58ef8e5a45ec43c3402c281203ca8"), looks := false }, kinds := [], alts := [], laidByText := true, laidKinds := [.data], laidTests := true, laidLooks := .later }
def ShrinkLeavesCardSaid : Prop := Claim7.holds Tryz.pinned (.plain (OpenSpec.ofChange shrinkLeavesSpec)) shrinkLeavesCard

/-- THE TIED CARD OF 'shuntlaw28.ShrinkFirst'. -/
def shrinkFirstCard : Claim7 := { stood := { row := shrinkFirstRow, standIns := [], harness := (true, "4fe68513d1c7624d4e44326306a3c6d89dd58ef8e5a45ec43c3402c281203ca8"), looks := false }, kinds := [], alts := [], laidByText := true, laidKinds := [.data], laidTests := true, laidLooks := .later }
def ShrinkFirstCardSaid : Prop := Claim7.holds Tryz.pinned (.plain (OpenSpec.ofChange shrinkFirstSpec)) shrinkFirstCard

/-- THE TIED CARD OF 'shuntlaw28.ShrinkLeast'. -/
def shrinkLeastCard : Claim7 := { stood := { row := shrinkLeastRow, standIns := [], harness := (true, "4fe68513d1c7624d4e44326306a3c6d89dd58ef8e5a45ec43c3402c281203ca8"), looks := false }, kinds := [], alts := [], laidByText := true, laidKinds := [.data], laidTests := true, laidLooks := .later }
def ShrinkLeastCardSaid : Prop := Claim7.holds Tryz.pinned (.plain (OpenSpec.ofChange shrinkLeastSpec)) shrinkLeastCard

/-- THE TIED CARD OF 'shuntlaw28.ShrinkNothing'. -/
def shrinkNothingCard : Claim7 := { stood := { row := shrinkNothingRow, standIns := [], harness := (true, "4fe68513d1c7624d4e44326306a3c6d89dd58ef8e5a45ec43c3402c281203ca8"), looks := false }, kinds := [], alts := [], laidByText := true, laidKinds := [.data], laidTests := true, laidLooks := .later }
def ShrinkNothingCardSaid : Prop := Claim7.holds Tryz.pinned (.plain (OpenSpec.ofChange shrinkNothingSpec)) shrinkNothingCard

/-- THE SECOND FORM's CARD OF 'shuntlaw28.ShrinkTells'. -/
def shrinkTellsUptoCard : Claim7 := { stood := { row := shrinkTellsUptoRow, standIns := [], harness := (true, "4fe68513d1c7624d4e44326306a3c6d89dd58ef8e5a45ec43c3402c281203ca8"), looks := false }, kinds := [], alts := [], laidByText := true, laidKinds := [.data], laidTests := true, laidLooks := .later }
def ShrinkTellsUptoCardSaid : Prop := Claim7.holds Tryz.pinned (.plain (OpenSpec.upto shrinkTellsSpec)) shrinkTellsUptoCard

/-- THE SECOND FORM's CARD OF 'shuntlaw28.ShrinkLeaves'. -/
def shrinkLeavesUptoCard : Claim7 := { stood := { row := shrinkLeavesUptoRow, standIns := [], harness := (true, "4fe68513d1c7624d4e44326306a3c6d89dd58ef8e5a45ec43c3402c281203ca8"), looks := false }, kinds := [], alts := [], laidByText := true, laidKinds := [.data], laidTests := true, laidLooks := .later }
def ShrinkLeavesUptoCardSaid : Prop := Claim7.holds Tryz.pinned (.plain (OpenSpec.upto shrinkLeavesSpec)) shrinkLeavesUptoCard

/-- THE SECOND FORM's CARD OF 'shuntlaw28.ShrinkFirst'. -/
def shrinkFirstUptoCard : Claim7 := { stood := { row := shrinkFirstUptoRow, standIns := [], harness := (true, "4fe68513d1c7624d4e44326306a3c6d89dd58ef8e5a45ec43c3402c281203ca8"), looks := false }, kinds := [], alts := [], laidByText := true, laidKinds := [.data], laidTests := true, laidLooks := .later }
def ShrinkFirstUptoCardSaid : Prop := Claim7.holds Tryz.pinned (.plain (OpenSpec.upto shrinkFirstSpec)) shrinkFirstUptoCard

/-- THE SECOND FORM's CARD OF 'shuntlaw28.ShrinkLeast'. -/
def shrinkLeastUptoCard : Claim7 := { stood := { row := shrinkLeastUptoRow, standIns := [], harness := (true, "4fe68513d1c7624d4e44326306a3c6d89dd58ef8e5a45ec43c3402c281203ca8"), looks := false }, kinds := [], alts := [], laidByText := true, laidKinds := [.data], laidTests := true, laidLooks := .later }
def ShrinkLeastUptoCardSaid : Prop := Claim7.holds Tryz.pinned (.plain (OpenSpec.upto shrinkLeastSpec)) shrinkLeastUptoCard

/-- THE SECOND FORM's CARD OF 'shuntlaw28.ShrinkNothing'. -/
def shrinkNothingUptoCard : Claim7 := { stood := { row := shrinkNothingUptoRow, standIns := [], harness := (true, "4fe68513d1c7624d4e44326306a3c6d89dd58ef8e5a45ec43c3402c281203ca8"), looks := false }, kinds := [], alts := [], laidByText := true, laidKinds := [.data], laidTests := true, laidLooks := .later }
def ShrinkNothingUptoCardSaid : Prop := Claim7.holds Tryz.pinned (.plain (OpenSpec.upto shrinkNothingSpec)) shrinkNothingUptoCard
end Rows
end Go.Proofs.YtgjdmncoonceaaaGreatDoor
