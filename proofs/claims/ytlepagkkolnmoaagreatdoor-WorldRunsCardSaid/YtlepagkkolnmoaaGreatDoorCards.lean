/-
  DERIVED. GIVEN WITH THE SEED: THE CARDS: each row of YtlepagkkolnmoaaGreatDoorRows.lean that lists a variable, with what it lists TIED to the program's text (the seventh form; the later family's looks); each row that meets fmt, with fmt's text TOLD by the authors' own Lean function (tested against real Go, not proved from fmt's source: count such statements apart). THE CARD IS WHAT COUNTS. Prove the row's statement (the work); the ties are given (YtlepagkkolnmoaaGreatDoorTie.lean); close each card by the builder's one call (the guide's Derived/Test/ToyasCard.lean, 'card_holds'). Laid BY PROGRAM, IN A SANDBOX (cutbox-door.mjs). By AI agents, Wed Nov 11 2026. No macro, syntax, notation, axiom, sorry.
-/
import Derived.Test.YtlepagkkolnmoaaGreatDoorRows
import GoSem.ClaimSeven
namespace Go.Proofs.YtlepagkkolnmoaaGreatDoor
namespace Rows

/-- THE TIED CARD OF 'shuntlaw14.WorldRuns'. -/
def worldRunsCard : Claim7 := { stood := { row := worldRunsRow, standIns := [], harness := (true, "f0338f0dad65388e716fc7a2bf2cfaceb6749c2bb2b0dfd72c3a06b375bb8219"), looks := false }, kinds := [], alts := [], laidByText := true, laidKinds := [.data], laidTests := true, laidLooks := .later }
def WorldRunsCardSaid : Prop := Claim7.holds Tryz.pinned (.plain (OpenSpec.ofChange worldRunsSpec)) worldRunsCard

/-- THE TIED CARD OF 'shuntlaw14.WorldFault'. -/
def worldFaultCard : Claim7 := { stood := { row := worldFaultRow, standIns := [], harness := (true, "f0338f0dad65388e716fc7a2bf2cfaceb6749c2bb2b0dfd72c3a06b375bb8219"), looks := false }, kinds := [], alts := [], laidByText := true, laidKinds := [.data], laidTests := true, laidLooks := .later }
def WorldFaultCardSaid : Prop := Claim7.holds Tryz.pinned (.plain (OpenSpec.ofChange worldFaultSpec)) worldFaultCard

/-- THE SECOND FORM's CARD OF 'shuntlaw14.WorldRuns'. -/
def worldRunsUptoCard : Claim7 := { stood := { row := worldRunsUptoRow, standIns := [], harness := (true, "f0338f0dad65388e716fc7a2bf2cfaceb6749c2bb2b0dfd72c3a06b375bb8219"), looks := false }, kinds := [], alts := [], laidByText := true, laidKinds := [.data], laidTests := true, laidLooks := .later }
def WorldRunsUptoCardSaid : Prop := Claim7.holds Tryz.pinned (.plain (OpenSpec.upto worldRunsSpec)) worldRunsUptoCard

/-- THE SECOND FORM's CARD OF 'shuntlaw14.WorldFault'. -/
def worldFaultUptoCard : Claim7 := { stood := { row := worldFaultUptoRow, standIns := [], harness := (true, "f0338f0dad65388e716fc7a2bf2cfaceb6749c2bb2b0dfd72c3a06b375bb8219"), looks := false }, kinds := [], alts := [], laidByText := true, laidKinds := [.data], laidTests := true, laidLooks := .later }
def WorldFaultUptoCardSaid : Prop := Claim7.holds Tryz.pinned (.plain (OpenSpec.upto worldFaultSpec)) worldFaultUptoCard
end Rows
end Go.Proofs.YtlepagkkolnmoaaGreatDoor
