/-
  DERIVED. GIVEN WITH THE SEED: THE CARDS: each row of YtknonmfldijjdaaGreatDoorRows.lean that lists a variable, with what it lists TIED to the program's text (the seventh form; the later family's looks); each row that meets fmt, with fmt's text TOLD by the authors' own Lean function (tested against real Go, not proved from fmt's source: count such statements apart). THE CARD IS WHAT COUNTS. Prove the row's statement (the work); the ties are given (YtknonmfldijjdaaGreatDoorTie.lean); close each card by the builder's one call (the guide's Derived/Test/ToyasCard.lean, 'card_holds'). Laid BY PROGRAM, IN A SANDBOX (cutbox-door.mjs). By AI agents, Wed Nov 11 2026. No macro, syntax, notation, axiom, sorry.
-/
import Derived.Test.YtknonmfldijjdaaGreatDoorRows
import GoSem.ClaimSeven
namespace Go.Proofs.YtknonmfldijjdaaGreatDoor
namespace Rows

/-- THE TIED CARD OF 'shuntlaw21.CompNames'. -/
def compNamesCard : Claim7 := { stood := { row := compNamesRow, standIns := [], harness := (true, "bf00020f54ba47c892b3180b6b80503cd742ff123a03231bc358c2e6f42a0ef9"), looks := true }, kinds := [], alts := [], laidByText := true, laidKinds := [.data, .data, .data, .sentinel, .sentinel, .data], laidTests := true, laidLooks := .later }
def CompNamesCardSaid : Prop := Claim7.holds Tryz.pinned (.plain (OpenSpec.ofChange compNamesSpec)) compNamesCard

/-- THE SECOND FORM's CARD OF 'shuntlaw21.CompNames'. -/
def compNamesUptoCard : Claim7 := { stood := { row := compNamesUptoRow, standIns := [], harness := (true, "bf00020f54ba47c892b3180b6b80503cd742ff123a03231bc358c2e6f42a0ef9"), looks := true }, kinds := [], alts := [], laidByText := true, laidKinds := [.data, .data, .data, .sentinel, .sentinel, .data], laidTests := true, laidLooks := .later }
def CompNamesUptoCardSaid : Prop := Claim7.holds Tryz.pinned (.plain (OpenSpec.upto compNamesSpec)) compNamesUptoCard
end Rows
end Go.Proofs.YtknonmfldijjdaaGreatDoor
