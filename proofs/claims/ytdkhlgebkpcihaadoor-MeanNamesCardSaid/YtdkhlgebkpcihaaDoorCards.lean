/-
  DERIVED. GIVEN WITH THE SEED: THE CARDS: each row of YtdkhlgebkpcihaaDoorRows.lean that lists a variable, with what it lists TIED to the program's text (the seventh form; the later family's looks); each row that meets fmt, with fmt's text TOLD by the authors' own Lean function (tested against real Go, not proved from fmt's source: count such statements apart). THE CARD IS WHAT COUNTS. Prove the row's statement (the work); the ties are given (YtdkhlgebkpcihaaDoorTie.lean); close each card by the builder's one call (the guide's Derived/Test/ToyasCard.lean, 'card_holds'). Laid BY PROGRAM, IN A SANDBOX (cutbox-door.mjs). By AI agents, Wed Nov 11 2026. No macro, syntax, notation, axiom, sorry.
-/
import Derived.Test.YtdkhlgebkpcihaaDoorRows
import GoSem.ClaimSeven
namespace Go.Proofs.YtdkhlgebkpcihaaDoor
namespace Rows

/-- THE TIED CARD OF 'shuntlaw19.MeanNames'. -/
def meanNamesCard : Claim7 := { stood := { row := meanNamesRow, standIns := [], harness := (true, "75b777a6b62686751e4a9d370fff4950025eead80fbf06a4d88cc45853b64562"), looks := true }, kinds := [], alts := [], laidByText := true, laidKinds := [.data, .data, .data, .sentinel, .sentinel], laidTests := true, laidLooks := .later }
def MeanNamesCardSaid : Prop := Claim7.holds Tryd.pinned (.plain (OpenSpec.ofChange meanNamesSpec)) meanNamesCard

/-- THE SECOND FORM's CARD OF 'shuntlaw19.MeanNames'. -/
def meanNamesUptoCard : Claim7 := { stood := { row := meanNamesUptoRow, standIns := [], harness := (true, "75b777a6b62686751e4a9d370fff4950025eead80fbf06a4d88cc45853b64562"), looks := true }, kinds := [], alts := [], laidByText := true, laidKinds := [.data, .data, .data, .sentinel, .sentinel], laidTests := true, laidLooks := .later }
def MeanNamesUptoCardSaid : Prop := Claim7.holds Tryd.pinned (.plain (OpenSpec.upto meanNamesSpec)) meanNamesUptoCard
end Rows
end Go.Proofs.YtdkhlgebkpcihaaDoor
