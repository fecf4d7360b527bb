/-
  DERIVED. GIVEN WITH THE SEED: THE CARDS: each row of YtcfpjnmfecamdaaGreatDoorRows.lean that lists a variable, with what it lists TIED to the program's text (the seventh form; the later family's looks); each row that meets fmt, with fmt's text TOLD by the authors' own Lean function (tested against real Go, not proved from fmt's source: count such statements apart). THE CARD IS WHAT COUNTS. Prove the row's statement (the work); the ties are given (YtcfpjnmfecamdaaGreatDoorTie.lean); close each card by the builder's one call (the guide's Derived/Test/ToyasCard.lean, 'card_holds'). Laid BY PROGRAM, IN A SANDBOX (cutbox-door.mjs). By AI agents, Wed Nov 11 2026. No macro, syntax, notation, axiom, sorry.
-/
import Derived.Test.YtcfpjnmfecamdaaGreatDoorRows
import GoSem.ClaimSeven
namespace Go.Proofs.YtcfpjnmfecamdaaGreatDoor
namespace Rows

/-- THE TIED CARD OF 'shuntlaw20.SoloNames'. -/
def soloNamesCard : Claim7 := { stood := { row := soloNamesRow, standIns := [], harness := (true, "aeb943b855be85f63ce0361a255e5ffa1e8d09b714e240f4c497b6c9636918c0"), looks := true }, kinds := [], alts := [], laidByText := true, laidKinds := [.data, .data, .data, .data, .sentinel, .sentinel, .data, .pinned], laidTests := true, laidLooks := .later }
def SoloNamesCardSaid : Prop := Claim7.holds Tryz.pinned (.plain (OpenSpec.ofChange soloNamesSpec)) soloNamesCard

/-- THE TIED CARD OF 'shuntlaw21.CompNames'. -/
def compNamesCard : Claim7 := { stood := { row := compNamesRow, standIns := [], harness := (true, "aeb943b855be85f63ce0361a255e5ffa1e8d09b714e240f4c497b6c9636918c0"), looks := true }, kinds := [], alts := [], laidByText := true, laidKinds := [.data, .data, .data, .sentinel, .sentinel, .data], laidTests := true, laidLooks := .later }
def CompNamesCardSaid : Prop := Claim7.holds Tryz.pinned (.plain (OpenSpec.ofChange compNamesSpec)) compNamesCard

/-- THE SECOND FORM's CARD OF 'shuntlaw20.SoloNames'. -/
def soloNamesUptoCard : Claim7 := { stood := { row := soloNamesUptoRow, standIns := [], harness := (true, "aeb943b855be85f63ce0361a255e5ffa1e8d09b714e240f4c497b6c9636918c0"), looks := true }, kinds := [], alts := [], laidByText := true, laidKinds := [.data, .data, .data, .data, .sentinel, .sentinel, .data, .pinned], laidTests := true, laidLooks := .later }
def SoloNamesUptoCardSaid : Prop := Claim7.holds Tryz.pinned (.plain (OpenSpec.upto soloNamesSpec)) soloNamesUptoCard

/-- THE SECOND FORM's CARD OF 'shuntlaw21.CompNames'. -/
def compNamesUptoCard : Claim7 := { stood := { row := compNamesUptoRow, standIns := [], harness := (true, "aeb943b855be85f63ce0361a255e5ffa1e8d09b714e240f4c497b6c9636918c0"), looks := true }, kinds := [], alts := [], laidByText := true, laidKinds := [.data, .data, .data, .sentinel, .sentinel, .data], laidTests := true, laidLooks := .later }
def CompNamesUptoCardSaid : Prop := Claim7.holds Tryz.pinned (.plain (OpenSpec.upto compNamesSpec)) compNamesUptoCard
end Rows
end Go.Proofs.YtcfpjnmfecamdaaGreatDoor
