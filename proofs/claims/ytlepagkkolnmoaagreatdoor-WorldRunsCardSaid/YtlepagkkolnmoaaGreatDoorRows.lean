/-
  NARROWER THAN 'FOR EVERY INPUT', by the rows' own cells (each row's printed sentence says how): WorldRuns: laid · WorldFault: laid.
  DERIVED. THE GIVEN ROWS OF THIS SEAT. 2 by the template 'for every input the law returns true; each argument reads behind the call as it read before'; 0 by the template 'total and deterministic' (their statements: YtlepagkkolnmoaaGreatDoorTotals.lean).
  GIVEN WITH THE SEED: the statements are not yours to turn. If you find one false, say at which input.
  Laid BY PROGRAM, IN A SANDBOX (cutbox-rows.mjs): the forced cells as the released guide's own fill.sh prints them over the translation 90bc1cf194d9556c… (all of the seat's roots in one cut). By AI agents, Wed Nov 11 2026. No macro, syntax, notation, axiom, sorry.
-/
import Derived.Test.YtlepagkkolnmoaaGreatDoorChecked
import GoSem.Claim
import GoSem.ClaimJoined
import GoSem.ClaimMapViews
import Derived.JoinedTies
import Derived.KernelRfl
namespace Go.Proofs.YtlepagkkolnmoaaGreatDoor
/- THE CELL 'sum', in the pinned program and in every row, IS THE sha256 OF THE DUMP (.gsa) THAT YtlepagkkolnmoaaGreatDoorProg.lean LOADS. Nothing in Lean hashes anything: it is a label: what it is worth is what the hold of that sum in a sandbox is worth. -/
noncomputable def Tryz.pinned : Pinned := { name := "ytlepagkkolnmoaagreatdoor", sum := "90bc1cf194d9556c54f8f860bf6d1ecd36ea8c0b4e3c923e53bca363df7d73e9", checked := Tryz.checked }
namespace Rows
def none {H : Type} : Left H := { results := [], args := [] }

/- WHAT THE LISTED PACKAGE-LEVEL VARIABLES READ AS WHEN THE CALL BEGINS. Each datum BY PROGRAM (the guide's laid-datum.mjs) off the statement by which the dump's own 'gosem.cut.vars' lays the variable. In a bare row this is a premise. The card (YtlepagkkolnmoaaGreatDoorCards.lean) ties it to the program's text. -/
def laid_shunt_isa_shapes {H : Type} : DataW H := .agg [.agg [.lit (.string []), .lit (.string [])], .agg [.lit (.string [104, 97, 108, 116]), .lit (.string [])], .agg [.lit (.string [115, 101, 116]), .lit (.string [65, 73])], .agg [.lit (.string [109, 111, 118]), .lit (.string [65, 66])], .agg [.lit (.string [97, 100, 100]), .lit (.string [65, 66, 67])], .agg [.lit (.string [115, 117, 98]), .lit (.string [65, 66, 67])], .agg [.lit (.string [109, 117, 108]), .lit (.string [65, 66, 67])], .agg [.lit (.string [97, 110, 100]), .lit (.string [65, 66, 67])], .agg [.lit (.string [120, 111, 114]), .lit (.string [65, 66, 67])], .agg [.lit (.string [115, 104, 108]), .lit (.string [65, 66, 67])], .agg [.lit (.string [115, 104, 114]), .lit (.string [65, 66, 67])], .agg [.lit (.string [108, 111, 97, 100]), .lit (.string [65, 66, 73])], .agg [.lit (.string [115, 116, 111, 114, 101]), .lit (.string [65, 66, 73])], .agg [.lit (.string [106, 117, 109, 112]), .lit (.string [73])], .agg [.lit (.string [101, 113]), .lit (.string [65, 66, 73])], .agg [.lit (.string [110, 101]), .lit (.string [65, 66, 73])], .agg [.lit (.string [108, 116]), .lit (.string [65, 66, 73])], .agg [.lit (.string [98, 101, 103, 105, 110]), .lit (.string [])], .agg [.lit (.string [101, 110, 100]), .lit (.string [])]]

/-- 'shuntlaw14.WorldRuns': WHATEVER THE INPUT: true; the input reads as it did. -/
def worldRunsSpec : ChangeSpec := { name := "worldRuns", fn := fun _ => fun
  | [d1, d2, d3] => { results := [.lit (.bool true)], args := [d1, d2, d3] }
  | _ => none }
def worldRunsRow : OpenClaim := { program := "ytlepagkkolnmoaagreatdoor", sum := "90bc1cf194d9556c54f8f860bf6d1ecd36ea8c0b4e3c923e53bca363df7d73e9", func := "shunt/shuntlaw14.WorldRuns", spec := "worldRuns", inPlace := ["internal/bytealg.IndexByteString"], unfollowed := true, recurses := true, named := ["shunt/isa.shapes"], apart := false, laid := [("shunt/isa.shapes", laid_shunt_isa_shapes)] }
def WorldRunsSaid : Prop := worldRunsRow.holds Tryz.pinned (OpenSpec.ofChange worldRunsSpec)

/-- ITS FALSE NEIGHBOUR: 'it returns false'. Refute it at one input. -/
def worldRunsWrong : ChangeSpec := { name := "worldRuns", fn := fun _ => fun
  | [d1, d2, d3] => { results := [.lit (.bool false)], args := [d1, d2, d3] }
  | _ => none }
def WorldRunsWrongFalsely : Prop := worldRunsRow.holds Tryz.pinned (OpenSpec.ofChange worldRunsWrong)

/-- 'shuntlaw14.WorldFault': WHATEVER THE INPUT: true; the input reads as it did. -/
def worldFaultSpec : ChangeSpec := { name := "worldFault", fn := fun _ => fun
  | [d1, d2, d3] => { results := [.lit (.bool true)], args := [d1, d2, d3] }
  | _ => none }
def worldFaultRow : OpenClaim := { program := "ytlepagkkolnmoaagreatdoor", sum := "90bc1cf194d9556c54f8f860bf6d1ecd36ea8c0b4e3c923e53bca363df7d73e9", func := "shunt/shuntlaw14.WorldFault", spec := "worldFault", inPlace := ["internal/bytealg.IndexByteString"], unfollowed := true, recurses := true, named := ["shunt/isa.shapes"], apart := false, laid := [("shunt/isa.shapes", laid_shunt_isa_shapes)] }
def WorldFaultSaid : Prop := worldFaultRow.holds Tryz.pinned (OpenSpec.ofChange worldFaultSpec)

/-- ITS FALSE NEIGHBOUR: 'it returns false'. Refute it at one input. -/
def worldFaultWrong : ChangeSpec := { name := "worldFault", fn := fun _ => fun
  | [d1, d2, d3] => { results := [.lit (.bool false)], args := [d1, d2, d3] }
  | _ => none }
def WorldFaultWrongFalsely : Prop := worldFaultRow.holds Tryz.pinned (OpenSpec.ofChange worldFaultWrong)

/- THE SECOND FORM. 'bulk': how many values and letters a reading holds, each counted each time it is reached (what is shared counts as often as it is met; a slice's spare places count too). A statement '..UptoSaid' is the law's where the arguments, and the package variables that the reading takes, are together of bulk at most 1048576: NARROWER than '..Said'. Prove '..Said' where nothing that the law and all that it calls make is longer than what came in: it says more and counts as full. Else prove '..UptoSaid'. A law counts once. -/
mutual
def uptoBulk {H : Type} : DataW H → Nat
  | .lit (.string bytes) => bytes.length + 1
  | .lit _ => 1
  | .nil => 1
  | .ptr d => uptoBulk d + 1
  | .slice elems spare => uptoBulkAll elems + uptoBulkAll spare + 1
  | .agg parts => uptoBulkAll parts + 1
  | .iface _ d => uptoBulk d + 1
  | .map entries => uptoBulkEntries entries + 1
  | .held _ => 1
def uptoBulkAll {H : Type} : List (DataW H) → Nat
  | [] => 0
  | d :: r => uptoBulk d + uptoBulkAll r
def uptoBulkEntries {H : Type} : List (Lit × DataW H) → Nat
  | [] => 0
  | x :: r => uptoBulkEntry x + uptoBulkEntries r
def uptoBulkEntry {H : Type} : Lit × DataW H → Nat
  | (.string bytes, d) => bytes.length + uptoBulk d + 1
  | (_, d) => uptoBulk d + 1
 end
def uptoSmall : (H : Type) → List (DataW H) → Bool := fun _ ds => decide (uptoBulkAll ds ≤ 1048576)
def OpenSpec.upto (s : _root_.Go.ChangeSpec) : _root_.Go.OpenSpec := { _root_.Go.OpenSpec.ofChange s with cond := some uptoSmall }

/-- 'shuntlaw14.WorldRuns', WHERE WHAT IT READS IS OF BULK AT MOST 1048576: true; the input reads as it did. -/
def worldRunsUptoRow : OpenClaim := { program := "ytlepagkkolnmoaagreatdoor", sum := "90bc1cf194d9556c54f8f860bf6d1ecd36ea8c0b4e3c923e53bca363df7d73e9", func := "shunt/shuntlaw14.WorldRuns", spec := "worldRuns", inPlace := ["internal/bytealg.IndexByteString"], unfollowed := true, recurses := true, named := ["shunt/isa.shapes"], apart := false, laid := [("shunt/isa.shapes", laid_shunt_isa_shapes)], narrowed := true }
def WorldRunsUptoSaid : Prop := worldRunsUptoRow.holds Tryz.pinned (OpenSpec.upto worldRunsSpec)

/-- 'shuntlaw14.WorldFault', WHERE WHAT IT READS IS OF BULK AT MOST 1048576: true; the input reads as it did. -/
def worldFaultUptoRow : OpenClaim := { program := "ytlepagkkolnmoaagreatdoor", sum := "90bc1cf194d9556c54f8f860bf6d1ecd36ea8c0b4e3c923e53bca363df7d73e9", func := "shunt/shuntlaw14.WorldFault", spec := "worldFault", inPlace := ["internal/bytealg.IndexByteString"], unfollowed := true, recurses := true, named := ["shunt/isa.shapes"], apart := false, laid := [("shunt/isa.shapes", laid_shunt_isa_shapes)], narrowed := true }
def WorldFaultUptoSaid : Prop := worldFaultUptoRow.holds Tryz.pinned (OpenSpec.upto worldFaultSpec)

end Rows
end Go.Proofs.YtlepagkkolnmoaaGreatDoor
