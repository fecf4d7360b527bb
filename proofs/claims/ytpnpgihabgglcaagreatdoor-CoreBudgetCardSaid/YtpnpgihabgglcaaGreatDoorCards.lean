/-
  DERIVED. GIVEN WITH THE SEED: THE CARDS: each row of YtpnpgihabgglcaaGreatDoorRows.lean that lists a variable, with what it lists TIED to the program's text (the seventh form; the later family's looks); each row that meets fmt, with fmt's text TOLD by the authors' own Lean function (tested against real Go, not proved from fmt's source: count such statements apart). THE CARD IS WHAT COUNTS. Prove the row's statement (the work); the ties are given (YtpnpgihabgglcaaGreatDoorTie.lean); close each card by the builder's one call (the guide's Derived/Test/ToyasCard.lean, 'card_holds'). Laid BY PROGRAM, IN A SANDBOX (cutbox-door.mjs). By AI agents, Wed Nov 11 2026. No macro, syntax, notation, axiom, sorry.
-/
import Derived.Test.YtpnpgihabgglcaaGreatDoorRows
import GoSem.ClaimSeven
namespace Go.Proofs.YtpnpgihabgglcaaGreatDoor
namespace Rows

/-- THE TIED CARD OF 'shuntlaw11.CoreBudget'. -/
def coreBudgetCard : Claim7 := { stood := { row := coreBudgetRow, standIns := [], harness := (true, "c7721184eea6e8114a8030db1d20f87189c8336a616963ae460f33deb5d407eb"), looks := false }, kinds := [], alts := [], laidByText := true, laidKinds := [.data], laidTests := true, laidLooks := .later }
def CoreBudgetCardSaid : Prop := Claim7.holds Tryz.pinned (.plain (OpenSpec.ofChange coreBudgetSpec)) coreBudgetCard

/-- THE TIED CARD OF 'shuntlaw11.CoreBack'. -/
def coreBackCard : Claim7 := { stood := { row := coreBackRow, standIns := [], harness := (true, "c7721184eea6e8114a8030db1d20f87189c8336a616963ae460f33deb5d407eb"), looks := false }, kinds := [], alts := [], laidByText := true, laidKinds := [.data], laidTests := true, laidLooks := .later }
def CoreBackCardSaid : Prop := Claim7.holds Tryz.pinned (.plain (OpenSpec.ofChange coreBackSpec)) coreBackCard

/-- THE SECOND FORM's CARD OF 'shuntlaw11.CoreBudget'. -/
def coreBudgetUptoCard : Claim7 := { stood := { row := coreBudgetUptoRow, standIns := [], harness := (true, "c7721184eea6e8114a8030db1d20f87189c8336a616963ae460f33deb5d407eb"), looks := false }, kinds := [], alts := [], laidByText := true, laidKinds := [.data], laidTests := true, laidLooks := .later }
def CoreBudgetUptoCardSaid : Prop := Claim7.holds Tryz.pinned (.plain (OpenSpec.upto coreBudgetSpec)) coreBudgetUptoCard

/-- THE SECOND FORM's CARD OF 'shuntlaw11.CoreBack'. -/
def coreBackUptoCard : Claim7 := { stood := { row := coreBackUptoRow, standIns := [], harness := (true, "c7721184eea6e8114a8030db1d20f87189c8336a616963ae460f33deb5d407eb"), looks := false }, kinds := [], alts := [], laidByText := true, laidKinds := [.data], laidTests := true, laidLooks := .later }
def CoreBackUptoCardSaid : Prop := Claim7.holds Tryz.pinned (.plain (OpenSpec.upto coreBackSpec)) coreBackUptoCard
end Rows
end Go.Proofs.YtpnpgihabgglcaaGreatDoor
