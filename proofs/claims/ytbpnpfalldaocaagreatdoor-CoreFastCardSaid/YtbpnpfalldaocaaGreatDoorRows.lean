/-
  NARROWER THAN 'FOR EVERY INPUT', by the rows' own cells (each row's printed sentence says how): CoreFast: laid · TopHidden: laid · TopCoherent: laid.
  DERIVED. THE GIVEN ROWS OF THIS SEAT. 3 by the template 'for every input the law returns true; each argument reads behind the call as it read before'; 0 by the template 'total and deterministic' (their statements: YtbpnpfalldaocaaGreatDoorTotals.lean).
  GIVEN WITH THE SEED: the statements are not yours to turn. If you find one false, say at which input.
  Laid BY PROGRAM, IN A SANDBOX (cutbox-rows.mjs): the forced cells as the released guide's own fill.sh prints them over the translation 0906f82f7d5dae62… (all of the seat's roots in one cut). By AI agents, Wed Nov 11 2026. No macro, syntax, notation, axiom, sorry.
-/
import Derived.Test.YtbpnpfalldaocaaGreatDoorChecked
import GoSem.Claim
import GoSem.ClaimJoined
import GoSem.ClaimMapViews
import Derived.JoinedTies
import Derived.KernelRfl
namespace Go.Proofs.YtbpnpfalldaocaaGreatDoor
/- THE CELL 'sum', in the pinned program and in every row, IS THE sha256 OF THE DUMP (.gsa) THAT YtbpnpfalldaocaaGreatDoorProg.lean LOADS. Nothing in Lean hashes anything: it is a label: what it is worth is what the hold of that sum in a sandbox is worth. -/
noncomputable def Tryz.pinned : Pinned := { name := "ytbpnpfalldaocaagreatdoor", sum := "0906f82f7d5dae62d7479c851418c8d9a68fbcd755422d1e09bae424a1a74a5d", checked := Tryz.checked }
namespace Rows
def none {H : Type} : Left H := { results := [], args := [] }

/- WHAT THE LISTED PACKAGE-LEVEL VARIABLES READ AS WHEN THE CALL BEGINS. Each datum BY PROGRAM (the guide's laid-datum.mjs) off the statement by which the dump's own 'gosem.cut.vars' lays the variable. In a bare row this is a premise. The card (YtbpnpfalldaocaaGreatDoorCards.lean) ties it to the program's text. -/
def laid_shunt_isa_shapes {H : Type} : DataW H := .agg [.agg [.lit (.string []), .lit (.string [])], .agg [.lit (.string [104, 97, 108, 116]), .lit (.string [])], .agg [.lit (.string [115, 101, 116]), .lit (.string [65, 73])], .agg [.lit (.string [109, 111, 118]), .lit (.string [65, 66])], .agg [.lit (.string [97, 100, 100]), .lit (.string [65, 66, 67])], .agg [.lit (.string [115, 117, 98]), .lit (.string [65, 66, 67])], .agg [.lit (.string [109, 117, 108]), .lit (.string [65, 66, 67])], .agg [.lit (.string [97, 110, 100]), .lit (.string [65, 66, 67])], .agg [.lit (.string [120, 111, 114]), .lit (.string [65, 66, 67])], .agg [.lit (.string [115, 104, 108]), .lit (.string [65, 66, 67])], .agg [.lit (.string [115, 104, 114]), .lit (.string [65, 66, 67])], .agg [.lit (.string [108, 111, 97, 100]), .lit (.string [65, 66, 73])], .agg [.lit (.string [115, 116, 111, 114, 101]), .lit (.string [65, 66, 73])], .agg [.lit (.string [106, 117, 109, 112]), .lit (.string [73])], .agg [.lit (.string [101, 113]), .lit (.string [65, 66, 73])], .agg [.lit (.string [110, 101]), .lit (.string [65, 66, 73])], .agg [.lit (.string [108, 116]), .lit (.string [65, 66, 73])], .agg [.lit (.string [98, 101, 103, 105, 110]), .lit (.string [])], .agg [.lit (.string [101, 110, 100]), .lit (.string [])]]

/-- 'shuntlaw11.CoreFast': WHATEVER THE INPUT: true; the input reads as it did. -/
def coreFastSpec : ChangeSpec := { name := "coreFast", fn := fun _ => fun
  | [d1, d2, d3] => { results := [.lit (.bool true)], args := [d1, d2, d3] }
  | _ => none }
def coreFastRow : OpenClaim := { program := "ytbpnpfalldaocaagreatdoor", sum := "0906f82f7d5dae62d7479c851418c8d9a68fbcd755422d1e09bae424a1a74a5d", func := "shunt/shuntlaw11.CoreFast", spec := "coreFast", inPlace := ["internal/bytealg.IndexByteString"], unfollowed := true, recurses := true, named := ["shunt/isa.shapes"], apart := false, laid := [("shunt/isa.shapes", laid_shunt_isa_shapes)] }
def CoreFastSaid : Prop := coreFastRow.holds Tryz.pinned (OpenSpec.ofChange coreFastSpec)

/-- ITS FALSE NEIGHBOUR: 'it returns false'. Refute it at one input. -/
def coreFastWrong : ChangeSpec := { name := "coreFast", fn := fun _ => fun
  | [d1, d2, d3] => { results := [.lit (.bool false)], args := [d1, d2, d3] }
  | _ => none }
def CoreFastWrongFalsely : Prop := coreFastRow.holds Tryz.pinned (OpenSpec.ofChange coreFastWrong)

/-- 'shunttop.TopHidden': WHATEVER THE INPUT: true; the input reads as it did. -/
def topHiddenSpec : ChangeSpec := { name := "topHidden", fn := fun _ => fun
  | [d1, d2] => { results := [.lit (.bool true)], args := [d1, d2] }
  | _ => none }
def topHiddenRow : OpenClaim := { program := "ytbpnpfalldaocaagreatdoor", sum := "0906f82f7d5dae62d7479c851418c8d9a68fbcd755422d1e09bae424a1a74a5d", func := "shunt/shunttop.TopHidden", spec := "topHidden", inPlace := ["internal/bytealg.IndexByteString"], unfollowed := true, recurses := true, named := ["shunt/isa.shapes"], apart := false, laid := [("shunt/isa.shapes", laid_shunt_isa_shapes)] }
def TopHiddenSaid : Prop := topHiddenRow.holds Tryz.pinned (OpenSpec.ofChange topHiddenSpec)

/-- ITS FALSE NEIGHBOUR: 'it returns false'. Refute it at one input. -/
def topHiddenWrong : ChangeSpec := { name := "topHidden", fn := fun _ => fun
  | [d1, d2] => { results := [.lit (.bool false)], args := [d1, d2] }
  | _ => none }
def TopHiddenWrongFalsely : Prop := topHiddenRow.holds Tryz.pinned (OpenSpec.ofChange topHiddenWrong)

/-- 'shunttop.TopCoherent': WHATEVER THE INPUT: true; the input reads as it did. -/
def topCoherentSpec : ChangeSpec := { name := "topCoherent", fn := fun _ => fun
  | [d1, d2] => { results := [.lit (.bool true)], args := [d1, d2] }
  | _ => none }
def topCoherentRow : OpenClaim := { program := "ytbpnpfalldaocaagreatdoor", sum := "0906f82f7d5dae62d7479c851418c8d9a68fbcd755422d1e09bae424a1a74a5d", func := "shunt/shunttop.TopCoherent", spec := "topCoherent", inPlace := ["internal/bytealg.IndexByteString"], unfollowed := true, recurses := true, named := ["shunt/isa.shapes"], apart := false, laid := [("shunt/isa.shapes", laid_shunt_isa_shapes)] }
def TopCoherentSaid : Prop := topCoherentRow.holds Tryz.pinned (OpenSpec.ofChange topCoherentSpec)

/-- ITS FALSE NEIGHBOUR: 'it returns false'. Refute it at one input. -/
def topCoherentWrong : ChangeSpec := { name := "topCoherent", fn := fun _ => fun
  | [d1, d2] => { results := [.lit (.bool false)], args := [d1, d2] }
  | _ => none }
def TopCoherentWrongFalsely : Prop := topCoherentRow.holds Tryz.pinned (OpenSpec.ofChange topCoherentWrong)

/- THE SECOND FORM. 'bulk': how many values and letters a reading holds, each counted each time it is reached (what is shared counts as often as it is met; a slice's spare places count too). A statement '..UptoSaid' is the law's where the arguments, and the package variables that the reading takes, are together of bulk at most 1048576: NARROWER than '..Said'. Prove '..Said' where nothing that the law and all that it calls make is longer than what came in: it says more and counts as full. Else prove '..UptoSaid'. A law counts once. -/
mutual
def uptoBulk {H : Type} : DataW H → Nat
  | .lit (.string bytes) => bytes.length + 1
  | .lit _ => 1
  | .nil => 1
  | .ptr d => uptoBulk d + 1
  | .slice elems spare => uptoBulkAll elems + uptoBulkAll spare + 1
  | .agg parts => uptoBulkAll parts + 1
  | .iface _ d => uptoBulk d + 1
  | .map entries => uptoBulkEntries entries + 1
  | .held _ => 1
def uptoBulkAll {H : Type} : List (DataW H) → Nat
  | [] => 0
  | d :: r => uptoBulk d + uptoBulkAll r
def uptoBulkEntries {H : Type} : List (Lit × DataW H) → Nat
  | [] => 0
  | x :: r => uptoBulkEntry x + uptoBulkEntries r
def uptoBulkEntry {H : Type} : Lit × DataW H → Nat
  | (.string bytes, d) => bytes.length + uptoBulk d + 1
  | (_, d) => uptoBulk d + 1
 end
def uptoSmall : (H : Type) → List (DataW H) → Bool := fun _ ds => decide (uptoBulkAll ds ≤ 1048576)
def OpenSpec.upto (s : _root_.Go.ChangeSpec) : _root_.Go.OpenSpec := { _root_.Go.OpenSpec.ofChange s with cond := some uptoSmall }

/-- 'shuntlaw11.CoreFast', WHERE WHAT IT READS IS OF BULK AT MOST 1048576: true; the input reads as it did. -/
def coreFastUptoRow : OpenClaim := { program := "ytbpnpfalldaocaagreatdoor", sum := "0906f82f7d5dae62d7479c851418c8d9a68fbcd755422d1e09bae424a1a74a5d", func := "shunt/shuntlaw11.CoreFast", spec := "coreFast", inPlace := ["internal/bytealg.IndexByteString"], unfollowed := true, recurses := true, named := ["shunt/isa.shapes"], apart := false, laid := [("shunt/isa.shapes", laid_shunt_isa_shapes)], narrowed := true }
def CoreFastUptoSaid : Prop := coreFastUptoRow.holds Tryz.pinned (OpenSpec.upto coreFastSpec)

/-- 'shunttop.TopHidden', WHERE WHAT IT READS IS OF BULK AT MOST 1048576: true; the input reads as it did. -/
def topHiddenUptoRow : OpenClaim := { program := "ytbpnpfalldaocaagreatdoor", sum := "0906f82f7d5dae62d7479c851418c8d9a68fbcd755422d1e09bae424a1a74a5d", func := "shunt/shunttop.TopHidden", spec := "topHidden", inPlace := ["internal/bytealg.IndexByteString"], unfollowed := true, recurses := true, named := ["shunt/isa.shapes"], apart := false, laid := [("shunt/isa.shapes", laid_shunt_isa_shapes)], narrowed := true }
def TopHiddenUptoSaid : Prop := topHiddenUptoRow.holds Tryz.pinned (OpenSpec.upto topHiddenSpec)

/-- 'shunttop.TopCoherent', WHERE WHAT IT READS IS OF BULK AT MOST 1048576: true; the input reads as it did. -/
def topCoherentUptoRow : OpenClaim := { program := "ytbpnpfalldaocaagreatdoor", sum := "0906f82f7d5dae62d7479c851418c8d9a68fbcd755422d1e09bae424a1a74a5d", func := "shunt/shunttop.TopCoherent", spec := "topCoherent", inPlace := ["internal/bytealg.IndexByteString"], unfollowed := true, recurses := true, named := ["shunt/isa.shapes"], apart := false, laid := [("shunt/isa.shapes", laid_shunt_isa_shapes)], narrowed := true }
def TopCoherentUptoSaid : Prop := topCoherentUptoRow.holds Tryz.pinned (OpenSpec.upto topCoherentSpec)

end Rows
end Go.Proofs.YtbpnpfalldaocaaGreatDoor
