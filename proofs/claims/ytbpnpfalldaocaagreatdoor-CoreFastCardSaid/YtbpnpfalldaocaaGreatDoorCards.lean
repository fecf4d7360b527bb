/-
  DERIVED. GIVEN WITH THE SEED: THE CARDS: each row of YtbpnpfalldaocaaGreatDoorRows.lean that lists a variable, with what it lists TIED to the program's text (the seventh form; the later family's looks); each row that meets fmt, with fmt's text TOLD by the authors' own Lean function (tested against real Go, not proved from fmt's source: count such statements apart). THE CARD IS WHAT COUNTS. Prove the row's statement (the work); the ties are given (YtbpnpfalldaocaaGreatDoorTie.lean); close each card by the builder's one call (the guide's Derived/Test/ToyasCard.lean, 'card_holds'). Laid BY PROGRAM, IN A SANDBOX (cutbox-door.mjs). By AI agents, Wed Nov 11 2026. No macro, syntax, notation, axiom, sorry.
-/
import Derived.Test.YtbpnpfalldaocaaGreatDoorRows
import GoSem.ClaimSeven
namespace Go.Proofs.YtbpnpfalldaocaaGreatDoor
namespace Rows

/-- THE TIED CARD OF 'shuntlaw11.CoreFast'. -/
def coreFastCard : Claim7 := { stood := { row := coreFastRow, standIns := [], harness := (true, "e96f1c35c22e94a7ca3f4af081e16f38e31f2e0ee28dda88e24c19289ac4f5c6"), looks := false }, kinds := [], alts := [], laidByText := true, laidKinds := [.data], laidTests := true, laidLooks := .later }
def CoreFastCardSaid : Prop := Claim7.holds Tryz.pinned (.plain (OpenSpec.ofChange coreFastSpec)) coreFastCard

/-- THE TIED CARD OF 'shunttop.TopHidden'. -/
def topHiddenCard : Claim7 := { stood := { row := topHiddenRow, standIns := [], harness := (true, "e96f1c35c22e94a7ca3f4af081e16f38e31f2e0ee28dda88e24c19289ac4f5c6"), looks := false }, kinds := [], alts := [], laidByText := true, laidKinds := [.data], laidTests := true, laidLooks := .later }
def TopHiddenCardSaid : Prop := Claim7.holds Tryz.pinned (.plain (OpenSpec.ofChange topHiddenSpec)) topHiddenCard

/-- THE TIED CARD OF 'shunttop.TopCoherent'. -/
def topCoherentCard : Claim7 := { stood := { row := topCoherentRow, standIns := [], harness := (true, "e96f1c35c22e94a7ca3f4af081e16f38e31f2e0ee28dda88e24c19289ac4f5c6"), looks := false }, kinds := [], alts := [], laidByText := true, laidKinds := [.data], laidTests := true, laidLooks := .later }
def TopCoherentCardSaid : Prop := Claim7.holds Tryz.pinned (.plain (OpenSpec.ofChange topCoherentSpec)) topCoherentCard

/-- THE SECOND FORM's CARD OF 'shuntlaw11.CoreFast'. -/
def coreFastUptoCard : Claim7 := { stood := { row := coreFastUptoRow, standIns := [], harness := (true, "e96f1c35c22e94a7ca3f4af081e16f38e31f2e0ee28dda88e24c19289ac4f5c6"), looks := false }, kinds := [], alts := [], laidByText := true, laidKinds := [.data], laidTests := true, laidLooks := .later }
def CoreFastUptoCardSaid : Prop := Claim7.holds Tryz.pinned (.plain (OpenSpec.upto coreFastSpec)) coreFastUptoCard

/-- THE SECOND FORM's CARD OF 'shunttop.TopHidden'. -/
def topHiddenUptoCard : Claim7 := { stood := { row := topHiddenUptoRow, standIns := [], harness := (true, "e96f1c35c22e94a7ca3f4af081e16f38e31f2e0ee28dda88e24c19289ac4f5c6"), looks := false }, kinds := [], alts := [], laidByText := true, laidKinds := [.data], laidTests := true, laidLooks := .later }
def TopHiddenUptoCardSaid : Prop := Claim7.holds Tryz.pinned (.plain (OpenSpec.upto topHiddenSpec)) topHiddenUptoCard

/-- THE SECOND FORM's CARD OF 'shunttop.TopCoherent'. -/
def topCoherentUptoCard : Claim7 := { stood := { row := topCoherentUptoRow, standIns := [], harness := (true, "e96f1c35c22e94a7ca3f4af081e16f38e31f2e0ee28dda88e24c19289ac4f5c6"), looks := false }, kinds := [], alts := [], laidByText := true, laidKinds := [.data], laidTests := true, laidLooks := .later }
def TopCoherentUptoCardSaid : Prop := Claim7.holds Tryz.pinned (.plain (OpenSpec.upto topCoherentSpec)) topCoherentUptoCard
end Rows
end Go.Proofs.YtbpnpfalldaocaaGreatDoor
