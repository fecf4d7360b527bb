/-
  DERIVED. GIVEN WITH THE SEED: THE CARDS: each row of YtekjedjgmeldgaaGreatDoorRows.lean that lists a variable, with what it lists TIED to the program's text (the seventh form; the later family's looks); each row that meets fmt, with fmt's text TOLD by the authors' own Lean function (tested against real Go, not proved from fmt's source: count such statements apart). THE CARD IS WHAT COUNTS. Prove the row's statement (the work); the ties are given (YtekjedjgmeldgaaGreatDoorTie.lean); close each card by the builder's one call (the guide's Derived/Test/ToyasCard.lean, 'card_holds'). Laid BY PROGRAM, IN A SANDBOX (cutbox-door.mjs). By AI agents, Wed Nov 11 2026. No macro, syntax, notation, axiom, sorry.
-/
import Derived.Test.YtekjedjgmeldgaaGreatDoorRows
import GoSem.ClaimSeven
namespace Go.Proofs.YtekjedjgmeldgaaGreatDoor
namespace Rows

/-- THE TIED CARD OF 'shuntlaw28.ShrinkNames'. -/
def shrinkNamesCard : Claim7 := { stood := { row := shrinkNamesRow, standIns := [], harness := (true, "38a46e94e24b63ca57d496b07fb7886c6da6f05d2690805d0525aab45219fe48"), looks := false }, kinds := [], alts := [], laidByText := true, laidKinds := [.data], laidTests := true, laidLooks := .later }
def ShrinkNamesCardSaid : Prop := Claim7.holds Tryz.pinned (.plain (OpenSpec.ofChange shrinkNamesSpec)) shrinkNamesCard

/-- THE TIED CARD OF 'shuntlaw14.WorldNames'. -/
def worldNamesCard : Claim7 := { stood := { row := worldNamesRow, standIns := [], harness := (true, "38a46e94e24b63ca57d496b07fb7886c6da6f05d2690805d0525aab45219fe48"), looks := false }, kinds := [], alts := [], laidByText := true, laidKinds := [.data], laidTests := true, laidLooks := .later }
def WorldNamesCardSaid : Prop := Claim7.holds Tryz.pinned (.plain (OpenSpec.ofChange worldNamesSpec)) worldNamesCard

/-- THE SECOND FORM's CARD OF 'shuntlaw28.ShrinkNames'. -/
def shrinkNamesUptoCard : Claim7 := { stood := { row := shrinkNamesUptoRow, standIns := [], harness := (true, "38a46e94e24b63ca57d496b07fb7886c6da6f05d2690805d0525aab45219fe48"), looks := false }, kinds := [], alts := [], laidByText := true, laidKinds := [.data], laidTests := true, laidLooks := .later }
def ShrinkNamesUptoCardSaid : Prop := Claim7.holds Tryz.pinned (.plain (OpenSpec.upto shrinkNamesSpec)) shrinkNamesUptoCard

/-- THE SECOND FORM's CARD OF 'shuntlaw14.WorldNames'. -/
def worldNamesUptoCard : Claim7 := { stood := { row := worldNamesUptoRow, standIns := [], harness := (true, "38a46e94e24b63ca57d496b07fb7886c6da6f05d2690805d0525aab45219fe48"), looks := false }, kinds := [], alts := [], laidByText := true, laidKinds := [.data], laidTests := true, laidLooks := .later }
def WorldNamesUptoCardSaid : Prop := Claim7.holds Tryz.pinned (.plain (OpenSpec.upto worldNamesSpec)) worldNamesUptoCard
end Rows
end Go.Proofs.YtekjedjgmeldgaaGreatDoor
