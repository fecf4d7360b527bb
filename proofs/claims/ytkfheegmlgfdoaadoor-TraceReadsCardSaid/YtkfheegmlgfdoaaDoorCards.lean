/-
  DERIVED. GIVEN WITH THE SEED: THE CARDS: each row of YtkfheegmlgfdoaaDoorRows.lean that lists a variable, with what it lists TIED to the program's text (the seventh form; the later family's looks); each row that meets fmt, with fmt's text TOLD by the authors' own Lean function (tested against real Go, not proved from fmt's source: count such statements apart). THE CARD IS WHAT COUNTS. Prove the row's statement (the work); the ties are given (YtkfheegmlgfdoaaDoorTie.lean); close each card by the builder's one call (the guide's Derived/Test/ToyasCard.lean, 'card_holds'). Laid BY PROGRAM, IN A SANDBOX (cutbox-door.mjs). By AI agents, Wed Nov 11 2026. No macro, syntax, notation, axiom, sorry.
-/
import Derived.Test.YtkfheegmlgfdoaaDoorRows
import GoSem.ClaimSeven
namespace Go.Proofs.YtkfheegmlgfdoaaDoor
namespace Rows

/-- THE TIED CARD OF 'shuntlaw23.TraceWrites'. -/
def traceWritesCard : Claim7 := { stood := { row := traceWritesRow, standIns := [], harness := (true, "12928ad95847d2afdb9587a6fec64914753d9e54a01936da9a344bae9e0d5253"), looks := true }, kinds := [], alts := [], laidByText := true, laidKinds := [.data, .data, .data, .data, .data], laidTests := true, laidLooks := .later }
def TraceWritesCardSaid : Prop := Claim7.holds Tryd.pinned (.plain (OpenSpec.ofChange traceWritesSpec)) traceWritesCard

/-- THE TIED CARD OF 'shuntlaw23.TraceJoined'. -/
def traceJoinedCard : Claim7 := { stood := { row := traceJoinedRow, standIns := [], harness := (true, "12928ad95847d2afdb9587a6fec64914753d9e54a01936da9a344bae9e0d5253"), looks := true }, kinds := [], alts := [], laidByText := true, laidKinds := [.data, .data, .data, .data, .data], laidTests := true, laidLooks := .later }
def TraceJoinedCardSaid : Prop := Claim7.holds Tryd.pinned (.plain (OpenSpec.ofChange traceJoinedSpec)) traceJoinedCard

/-- THE TIED CARD OF 'shuntlaw23.TraceRises'. -/
def traceRisesCard : Claim7 := { stood := { row := traceRisesRow, standIns := [], harness := (true, "12928ad95847d2afdb9587a6fec64914753d9e54a01936da9a344bae9e0d5253"), looks := true }, kinds := [], alts := [], laidByText := true, laidKinds := [.data, .data, .data, .data, .data], laidTests := true, laidLooks := .later }
def TraceRisesCardSaid : Prop := Claim7.holds Tryd.pinned (.plain (OpenSpec.ofChange traceRisesSpec)) traceRisesCard

/-- THE TIED CARD OF 'shuntlaw23.TraceMerged'. -/
def traceMergedCard : Claim7 := { stood := { row := traceMergedRow, standIns := [], harness := (true, "12928ad95847d2afdb9587a6fec64914753d9e54a01936da9a344bae9e0d5253"), looks := true }, kinds := [], alts := [], laidByText := true, laidKinds := [.data, .data, .data, .data, .data], laidTests := true, laidLooks := .later }
def TraceMergedCardSaid : Prop := Claim7.holds Tryd.pinned (.plain (OpenSpec.ofChange traceMergedSpec)) traceMergedCard

/-- THE TIED CARD OF 'shuntlaw23.TraceReads'. -/
def traceReadsCard : Claim7 := { stood := { row := traceReadsRow, standIns := [], harness := (true, "12928ad95847d2afdb9587a6fec64914753d9e54a01936da9a344bae9e0d5253"), looks := true }, kinds := [], alts := [], laidByText := true, laidKinds := [.data, .data, .data, .data, .sentinel, .sentinel, .data, .data, .pinned], laidTests := true, laidLooks := .later }
def TraceReadsCardSaid : Prop := Claim7.holds Tryd.pinned (.plain (OpenSpec.ofChange traceReadsSpec)) traceReadsCard

/-- THE TIED CARD OF 'shuntlaw23.TraceBack'. -/
def traceBackCard : Claim7 := { stood := { row := traceBackRow, standIns := [], harness := (true, "12928ad95847d2afdb9587a6fec64914753d9e54a01936da9a344bae9e0d5253"), looks := true }, kinds := [], alts := [], laidByText := true, laidKinds := [.data, .data, .data, .data, .sentinel, .sentinel, .data, .data, .pinned], laidTests := true, laidLooks := .later }
def TraceBackCardSaid : Prop := Claim7.holds Tryd.pinned (.plain (OpenSpec.ofChange traceBackSpec)) traceBackCard

/-- THE SECOND FORM's CARD OF 'shuntlaw23.TraceWrites'. -/
def traceWritesUptoCard : Claim7 := { stood := { row := traceWritesUptoRow, standIns := [], harness := (true, "12928ad95847d2afdb9587a6fec64914753d9e54a01936da9a344bae9e0d5253"), looks := true }, kinds := [], alts := [], laidByText := true, laidKinds := [.data, .data, .data, .data, .data], laidTests := true, laidLooks := .later }
def TraceWritesUptoCardSaid : Prop := Claim7.holds Tryd.pinned (.plain (OpenSpec.upto traceWritesSpec)) traceWritesUptoCard

/-- THE SECOND FORM's CARD OF 'shuntlaw23.TraceJoined'. -/
def traceJoinedUptoCard : Claim7 := { stood := { row := traceJoinedUptoRow, standIns := [], harness := (true, "12928ad95847d2afdb9587a6fec64914753d9e54a01936da9a344bae9e0d5253"), looks := true }, kinds := [], alts := [], laidByText := true, laidKinds := [.data, .data, .data, .data, .data], laidTests := true, laidLooks := .later }
def TraceJoinedUptoCardSaid : Prop := Claim7.holds Tryd.pinned (.plain (OpenSpec.upto traceJoinedSpec)) traceJoinedUptoCard

/-- THE SECOND FORM's CARD OF 'shuntlaw23.TraceRises'. -/
def traceRisesUptoCard : Claim7 := { stood := { row := traceRisesUptoRow, standIns := [], harness := (true, "12928ad95847d2afdb9587a6fec64914753d9e54a01936da9a344bae9e0d5253"), looks := true }, kinds := [], alts := [], laidByText := true, laidKinds := [.data, .data, .data, .data, .data], laidTests := true, laidLooks := .later }
def TraceRisesUptoCardSaid : Prop := Claim7.holds Tryd.pinned (.plain (OpenSpec.upto traceRisesSpec)) traceRisesUptoCard

/-- THE SECOND FORM's CARD OF 'shuntlaw23.TraceMerged'. -/
def traceMergedUptoCard : Claim7 := { stood := { row := traceMergedUptoRow, standIns := [], harness := (true, "12928ad95847d2afdb9587a6fec64914753d9e54a01936da9a344bae9e0d5253"), looks := true }, kinds := [], alts := [], laidByText := true, laidKinds := [.data, .data, .data, .data, .data], laidTests := true, laidLooks := .later }
def TraceMergedUptoCardSaid : Prop := Claim7.holds Tryd.pinned (.plain (OpenSpec.upto traceMergedSpec)) traceMergedUptoCard

/-- THE SECOND FORM's CARD OF 'shuntlaw23.TraceReads'. -/
def traceReadsUptoCard : Claim7 := { stood := { row := traceReadsUptoRow, standIns := [], harness := (true, "12928ad95847d2afdb9587a6fec64914753d9e54a01936da9a344bae9e0d5253"), looks := true }, kinds := [], alts := [], laidByText := true, laidKinds := [.data, .data, .data, .data, .sentinel, .sentinel, .data, .data, .pinned], laidTests := true, laidLooks := .later }
def TraceReadsUptoCardSaid : Prop := Claim7.holds Tryd.pinned (.plain (OpenSpec.upto traceReadsSpec)) traceReadsUptoCard

/-- THE SECOND FORM's CARD OF 'shuntlaw23.TraceBack'. -/
def traceBackUptoCard : Claim7 := { stood := { row := traceBackUptoRow, standIns := [], harness := (true, "12928ad95847d2afdb9587a6fec64914753d9e54a01936da9a344bae9e0d5253"), looks := true }, kinds := [], alts := [], laidByText := true, laidKinds := [.data, .data, .data, .data, .sentinel, .sentinel, .data, .data, .pinned], laidTests := true, laidLooks := .later }
def TraceBackUptoCardSaid : Prop := Claim7.holds Tryd.pinned (.plain (OpenSpec.upto traceBackSpec)) traceBackUptoCard
end Rows
end Go.Proofs.YtkfheegmlgfdoaaDoor
