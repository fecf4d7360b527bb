/-
  DERIVED. GIVEN WITH THE SEED: THE CARDS: each row of YtjhjdlebhljcaaaGreatDoorRows.lean that lists a variable, with what it lists TIED to the program's text (the seventh form; the later family's looks); each row that meets fmt, with fmt's text TOLD by the authors' own Lean function (tested against real Go, not proved from fmt's source: count such statements apart). THE CARD IS WHAT COUNTS. Prove the row's statement (the work); the ties are given (YtjhjdlebhljcaaaGreatDoorTie.lean); close each card by the builder's one call (the guide's Derived/Test/ToyasCard.lean, 'card_holds'). Laid BY PROGRAM, IN A SANDBOX (cutbox-door.mjs). By AI agents, Wed Nov 11 2026. No macro, syntax, notation, axiom, sorry.
-/
import Derived.Test.YtjhjdlebhljcaaaGreatDoorRows
import GoSem.ClaimSeven
namespace Go.Proofs.YtjhjdlebhljcaaaGreatDoor
namespace Rows

/-- THE TIED CARD OF 'shuntlaw11.CoreNames'. -/
def coreNamesCard : Claim7 := { stood := { row := coreNamesRow, standIns := [], harness := (true, "a71f0ee86c6a608034f986061ced446f9363cd16a48e5d0db2a67c3dbecb4db0"), looks := false }, kinds := [], alts := [], laidByText := true, laidKinds := [.data], laidTests := true, laidLooks := .later }
def CoreNamesCardSaid : Prop := Claim7.holds Tryz.pinned (.plain (OpenSpec.ofChange coreNamesSpec)) coreNamesCard

/-- THE SECOND FORM's CARD OF 'shuntlaw11.CoreNames'. -/
def coreNamesUptoCard : Claim7 := { stood := { row := coreNamesUptoRow, standIns := [], harness := (true, "a71f0ee86c6a608034f986061ced446f9363cd16a48e5d0db2a67c3dbecb4db0"), looks := false }, kinds := [], alts := [], laidByText := true, laidKinds := [.data], laidTests := true, laidLooks := .later }
def CoreNamesUptoCardSaid : Prop := Claim7.holds Tryz.pinned (.plain (OpenSpec.upto coreNamesSpec)) coreNamesUptoCard
end Rows
end Go.Proofs.YtjhjdlebhljcaaaGreatDoor
