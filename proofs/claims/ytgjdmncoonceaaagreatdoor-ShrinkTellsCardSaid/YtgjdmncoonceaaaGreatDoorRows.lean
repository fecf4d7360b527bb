/-
  NARROWER THAN 'FOR EVERY INPUT', by the rows' own cells (each row's printed sentence says how): ShrinkTells: laid · ShrinkLeaves: laid · ShrinkFirst: laid · ShrinkLeast: laid · ShrinkNothing: laid.
  DERIVED. THE GIVEN ROWS OF THIS SEAT. 5 by the template 'for every input the law returns true; each argument reads behind the call as it read before'; 0 by the template 'total and deterministic' (their statements: YtgjdmncoonceaaaGreatDoorTotals.lean).
  GIVEN WITH THE SEED: the statements are not yours to turn. If you find one false, say at which input.
  Laid BY PROGRAM, IN A SANDBOX (cutbox-rows.mjs): the forced cells as the released guide's own fill.sh prints them over the translation 2856aa41936eb35a… (all of the seat's roots in one cut). By AI agents, Wed Nov 11 2026. No macro, syntax, notation, axiom, sorry.
-/
import Derived.Test.YtgjdmncoonceaaaGreatDoorChecked
import GoSem.Claim
import GoSem.ClaimJoined
import GoSem.ClaimMapViews
import Derived.JoinedTies
import Derived.KernelRfl
namespace Go.Proofs.YtgjdmncoonceaaaGreatDoor
/- THE CELL 'sum', in the pinned program and in every row, IS THE sha256 OF THE DUMP (.gsa) THAT YtgjdmncoonceaaaGreatDoorProg.lean LOADS. Nothing in Lean hashes anything: it is a label: what it is worth is what the hold of that sum in a sandbox is worth. -/
noncomputable def Tryz.pinned : Pinned := { name := "ytgjdmncoonceaaagreatdoor", sum := "2856aa41936eb35aa3b79ee8fd18226d0a9d1914cc3cc3ee9f4bcaad1925b169", checked := Tryz.checked }
namespace Rows
def none {H : Type} : Left H := { results := [], args := [] }

/- WHAT THE LISTED PACKAGE-LEVEL VARIABLES READ AS WHEN THE CALL BEGINS. Each datum BY PROGRAM (the guide's laid-datum.mjs) off the statement by which the dump's own 'gosem.cut.vars' lays the variable. In a bare row this is a premise. The card (YtgjdmncoonceaaaGreatDoorCards.lean) ties it to the program's text. -/
def laid_shunt_isa_shapes {H : Type} : DataW H := .agg [.agg [.lit (.string []), .lit (.string [])], .agg [.lit (.string [104, 97, 108, 116]), .lit (.string [])], .agg [.lit (.string [115, 101, 116]), .lit (.string [65, 73])], .agg [.lit (.string [109, 111, 118]), .lit (.string [65, 66])], .agg [.lit (.string [97, 100, 100]), .lit (.string [65, 66, 67])], .agg [.lit (.string [115, 117, 98]), .lit (.string [65, 66, 67])], .agg [.lit (.string [109, 117, 108]), .lit (.string [65, 66, 67])], .agg [.lit (.string [97, 110, 100]), .lit (.string [65, 66, 67])], .agg [.lit (.string [120, 111, 114]), .lit (.string [65, 66, 67])], .agg [.lit (.string [115, 104, 108]), .lit (.string [65, 66, 67])], .agg [.lit (.string [115, 104, 114]), .lit (.string [65, 66, 67])], .agg [.lit (.string [108, 111, 97, 100]), .lit (.string [65, 66, 73])], .agg [.lit (.string [115, 116, 111, 114, 101]), .lit (.string [65, 66, 73])], .agg [.lit (.string [106, 117, 109, 112]), .lit (.string [73])], .agg [.lit (.string [101, 113]), .lit (.string [65, 66, 73])], .agg [.lit (.string [110, 101]), .lit (.string [65, 66, 73])], .agg [.lit (.string [108, 116]), .lit (.string [65, 66, 73])], .agg [.lit (.string [98, 101, 103, 105, 110]), .lit (.string [])], .agg [.lit (.string [101, 110, 100]), .lit (.string [])]]

/-- 'shuntlaw28.ShrinkTells': WHATEVER THE INPUT: true; the input reads as it did. -/
def shrinkTellsSpec : ChangeSpec := { name := "shrinkTells", fn := fun _ => fun
  | [d1, d2, d3] => { results := [.lit (.bool true)], args := [d1, d2, d3] }
  | _ => none }
def shrinkTellsRow : OpenClaim := { program := "ytgjdmncoonceaaagreatdoor", sum := "2856aa41936eb35aa3b79ee8fd18226d0a9d1914cc3cc3ee9f4bcaad1925b169", func := "shunt/shuntlaw28.ShrinkTells", spec := "shrinkTells", inPlace := ["internal/bytealg.IndexByteString"], unfollowed := true, recurses := true, named := ["shunt/isa.shapes"], apart := false, laid := [("shunt/isa.shapes", laid_shunt_isa_shapes)] }
def ShrinkTellsSaid : Prop := shrinkTellsRow.holds Tryz.pinned (OpenSpec.ofChange shrinkTellsSpec)

/-- ITS FALSE NEIGHBOUR: 'it returns false'. Refute it at one input. -/
def shrinkTellsWrong : ChangeSpec := { name := "shrinkTells", fn := fun _ => fun
  | [d1, d2, d3] => { results := [.lit (.bool false)], args := [d1, d2, d3] }
  | _ => none }
def ShrinkTellsWrongFalsely : Prop := shrinkTellsRow.holds Tryz.pinned (OpenSpec.ofChange shrinkTellsWrong)

/-- 'shuntlaw28.ShrinkLeaves': WHATEVER THE INPUT: true; the input reads as it did. -/
def shrinkLeavesSpec : ChangeSpec := { name := "shrinkLeaves", fn := fun _ => fun
  | [d1, d2, d3] => { results := [.lit (.bool true)], args := [d1, d2, d3] }
  | _ => none }
def shrinkLeavesRow : OpenClaim := { program := "ytgjdmncoonceaaagreatdoor", sum := "2856aa41936eb35aa3b79ee8fd18226d0a9d1914cc3cc3ee9f4bcaad1925b169", func := "shunt/shuntlaw28.ShrinkLeaves", spec := "shrinkLeaves", inPlace := ["internal/bytealg.IndexByteString"], unfollowed := true, recurses := true, named := ["shunt/isa.shapes"], apart := false, laid := [("shunt/isa.shapes", laid_shunt_isa_shapes)] }
def ShrinkLeavesSaid : Prop := shrinkLeavesRow.holds Tryz.pinned (OpenSpec.ofChange shrinkLeavesSpec)

/-- ITS FALSE NEIGHBOUR: 'it returns false'. Refute it at one input. -/
def shrinkLeavesWrong : ChangeSpec := { name := "shrinkLeaves", fn := fun _ => fun
  | [d1, d2, d3] => { results := [.lit (.bool false)], args := [d1, d2, d3] }
  | _ => none }
def ShrinkLeavesWrongFalsely : Prop := shrinkLeavesRow.holds Tryz.pinned (OpenSpec.ofChange shrinkLeavesWrong)

/-- 'shuntlaw28.ShrinkFirst': WHATEVER THE INPUT: true; the input reads as it did. -/
def shrinkFirstSpec : ChangeSpec := { name := "shrinkFirst", fn := fun _ => fun
  | [d1, d2, d3] => { results := [.lit (.bool true)], args := [d1, d2, d3] }
  | _ => none }
def shrinkFirstRow : OpenClaim := { program := "ytgjdmncoonceaaagreatdoor", sum := "2856aa41936eb35aa3b79ee8fd18226d0a9d1914cc3cc3ee9f4bcaad1925b169", func := "shunt/shuntlaw28.ShrinkFirst", spec := "shrinkFirst", inPlace := ["internal/bytealg.IndexByteString"], unfollowed := true, recurses := true, named := ["shunt/isa.shapes"], apart := false, laid := [("shunt/isa.shapes", laid_shunt_isa_shapes)] }
def ShrinkFirstSaid : Prop := shrinkFirstRow.holds Tryz.pinned (OpenSpec.ofChange shrinkFirstSpec)

/-- ITS FALSE NEIGHBOUR: 'it returns false'. Refute it at one input. -/
def shrinkFirstWrong : ChangeSpec := { name := "shrinkFirst", fn := fun _ => fun
  | [d1, d2, d3] => { results := [.lit (.bool false)], args := [d1, d2, d3] }
  | _ => none }
def ShrinkFirstWrongFalsely : Prop := shrinkFirstRow.holds Tryz.pinned (OpenSpec.ofChange shrinkFirstWrong)

/-- 'shuntlaw28.ShrinkLeast': WHATEVER THE INPUT: true; the input reads as it did. -/
def shrinkLeastSpec : ChangeSpec := { name := "shrinkLeast", fn := fun _ => fun
  | [d1, d2, d3] => { results := [.lit (.bool true)], args := [d1, d2, d3] }
  | _ => none }
def shrinkLeastRow : OpenClaim := { program := "ytgjdmncoonceaaagreatdoor", sum := "2856aa41936eb35aa3b79ee8fd18226d0a9d1914cc3cc3ee9f4bcaad1925b169", func := "shunt/shuntlaw28.ShrinkLeast", spec := "shrinkLeast", inPlace := ["internal/bytealg.IndexByteString"], unfollowed := true, recurses := true, named := ["shunt/isa.shapes"], apart := false, laid := [("shunt/isa.shapes", laid_shunt_isa_shapes)] }
def ShrinkLeastSaid : Prop := shrinkLeastRow.holds Tryz.pinned (OpenSpec.ofChange shrinkLeastSpec)

/-- ITS FALSE NEIGHBOUR: 'it returns false'. Refute it at one input. -/
def shrinkLeastWrong : ChangeSpec := { name := "shrinkLeast", fn := fun _ => fun
  | [d1, d2, d3] => { results := [.lit (.bool false)], args := [d1, d2, d3] }
  | _ => none }
def ShrinkLeastWrongFalsely : Prop := shrinkLeastRow.holds Tryz.pinned (OpenSpec.ofChange shrinkLeastWrong)

/-- 'shuntlaw28.ShrinkNothing': WHATEVER THE INPUT: true; the input reads as it did. -/
def shrinkNothingSpec : ChangeSpec := { name := "shrinkNothing", fn := fun _ => fun
  | [d1, d2] => { results := [.lit (.bool true)], args := [d1, d2] }
  | _ => none }
def shrinkNothingRow : OpenClaim := { program := "ytgjdmncoonceaaagreatdoor", sum := "2856aa41936eb35aa3b79ee8fd18226d0a9d1914cc3cc3ee9f4bcaad1925b169", func := "shunt/shuntlaw28.ShrinkNothing", spec := "shrinkNothing", inPlace := ["internal/bytealg.IndexByteString"], unfollowed := true, recurses := true, named := ["shunt/isa.shapes"], apart := false, laid := [("shunt/isa.shapes", laid_shunt_isa_shapes)] }
def ShrinkNothingSaid : Prop := shrinkNothingRow.holds Tryz.pinned (OpenSpec.ofChange shrinkNothingSpec)

/-- ITS FALSE NEIGHBOUR: 'it returns false'. Refute it at one input. -/
def shrinkNothingWrong : ChangeSpec := { name := "shrinkNothing", fn := fun _ => fun
  | [d1, d2] => { results := [.lit (.bool false)], args := [d1, d2] }
  | _ => none }
def ShrinkNothingWrongFalsely : Prop := shrinkNothingRow.holds Tryz.pinned (OpenSpec.ofChange shrinkNothingWrong)

/- THE SECOND FORM. 'bulk': how many values and letters a reading holds, each counted each time it is reached (what is shared counts as often as it is met; a slice's spare places count too). A statement '..UptoSaid' is the law's where the arguments, and the package variables that the reading takes, are together of bulk at most 1048576: NARROWER than '..Said'. Prove '..Said' where nothing that the law and all that it calls make is longer than what came in: it says more and counts as full. Else prove '..UptoSaid'. A law counts once. -/
mutual
def uptoBulk {H : Type} : DataW H → Nat
  | .lit (.string bytes) => bytes.length + 1
  | .lit _ => 1
  | .nil => 1
  | .ptr d => uptoBulk d + 1
  | .slice elems spare => uptoBulkAll elems + uptoBulkAll spare + 1
  | .agg parts => uptoBulkAll parts + 1
  | .iface _ d => uptoBulk d + 1
  | .map entries => uptoBulkEntries entries + 1
  | .held _ => 1
def uptoBulkAll {H : Type} : List (DataW H) → Nat
  | [] => 0
  | d :: r => uptoBulk d + uptoBulkAll r
def uptoBulkEntries {H : Type} : List (Lit × DataW H) → Nat
  | [] => 0
  | x :: r => uptoBulkEntry x + uptoBulkEntries r
def uptoBulkEntry {H : Type} : Lit × DataW H → Nat
  | (.string bytes, d) => bytes.length + uptoBulk d + 1
  | (_, d) => uptoBulk d + 1
 end
def uptoSmall : (H : Type) → List (DataW H) → Bool := fun _ ds => decide (uptoBulkAll ds ≤ 1048576)
def OpenSpec.upto (s : _root_.Go.ChangeSpec) : _root_.Go.OpenSpec := { _root_.Go.OpenSpec.ofChange s with cond := some uptoSmall }

/-- 'shuntlaw28.ShrinkTells', WHERE WHAT IT READS IS OF BULK AT MOST 1048576: true; the input reads as it did. -/
def shrinkTellsUptoRow : OpenClaim := { program := "ytgjdmncoonceaaagreatdoor", sum := "2856aa41936eb35aa3b79ee8fd18226d0a9d1914cc3cc3ee9f4bcaad1925b169", func := "shunt/shuntlaw28.ShrinkTells", spec := "shrinkTells", inPlace := ["internal/bytealg.IndexByteString"], unfollowed := true, recurses := true, named := ["shunt/isa.shapes"], apart := false, laid := [("shunt/isa.shapes", laid_shunt_isa_shapes)], narrowed := true }
def ShrinkTellsUptoSaid : Prop := shrinkTellsUptoRow.holds Tryz.pinned (OpenSpec.upto shrinkTellsSpec)

/-- 'shuntlaw28.ShrinkLeaves', WHERE WHAT IT READS IS OF BULK AT MOST 1048576: true; the input reads as it did. -/
def shrinkLeavesUptoRow : OpenClaim := { program := "ytgjdmncoonceaaagreatdoor", sum := "2856aa41936eb35aa3b79ee8fd18226d0a9d1914cc3cc3ee9f4bcaad1925b169", func := "shunt/shuntlaw28.ShrinkLeaves", spec := "shrinkLeaves", inPlace := ["internal/bytealg.IndexByteString"], unfollowed := true, recurses := true, named := ["shunt/isa.shapes"], apart := false, laid := [("shunt/isa.shapes", laid_shunt_isa_shapes)], narrowed := true }
def ShrinkLeavesUptoSaid : Prop := shrinkLeavesUptoRow.holds Tryz.pinned (OpenSpec.upto shrinkLeavesSpec)

/-- 'shuntlaw28.ShrinkFirst', WHERE WHAT IT READS IS OF BULK AT MOST 1048576: true; the input reads as it did. -/
def shrinkFirstUptoRow : OpenClaim := { program := "ytgjdmncoonceaaagreatdoor", sum := "2856aa41936eb35aa3b79ee8fd18226d0a9d1914cc3cc3ee9f4bcaad1925b169", func := "shunt/shuntlaw28.ShrinkFirst", spec := "shrinkFirst", inPlace := ["internal/bytealg.IndexByteString"], unfollowed := true, recurses := true, named := ["shunt/isa.shapes"], apart := false, laid := [("shunt/isa.shapes", laid_shunt_isa_shapes)], narrowed := true }
def ShrinkFirstUptoSaid : Prop := shrinkFirstUptoRow.holds Tryz.pinned (OpenSpec.upto shrinkFirstSpec)

/-- 'shuntlaw28.ShrinkLeast', WHERE WHAT IT READS IS OF BULK AT MOST 1048576: true; the input reads as it did. -/
def shrinkLeastUptoRow : OpenClaim := { program := "ytgjdmncoonceaaagreatdoor", sum := "2856aa41936eb35aa3b79ee8fd18226d0a9d1914cc3cc3ee9f4bcaad1925b169", func := "shunt/shuntlaw28.ShrinkLeast", spec := "shrinkLeast", inPlace := ["internal/bytealg.IndexByteString"], unfollowed := true, recurses := true, named := ["shunt/isa.shapes"], apart := false, laid := [("shunt/isa.shapes", laid_shunt_isa_shapes)], narrowed := true }
def ShrinkLeastUptoSaid : Prop := shrinkLeastUptoRow.holds Tryz.pinned (OpenSpec.upto shrinkLeastSpec)

/-- 'shuntlaw28.ShrinkNothing', WHERE WHAT IT READS IS OF BULK AT MOST 1048576: true; the input reads as it did. -/
def shrinkNothingUptoRow : OpenClaim := { program := "ytgjdmncoonceaaagreatdoor", sum := "2856aa41936eb35aa3b79ee8fd18226d0a9d1914cc3cc3ee9f4bcaad1925b169", func := "shunt/shuntlaw28.ShrinkNothing", spec := "shrinkNothing", inPlace := ["internal/bytealg.IndexByteString"], unfollowed := true, recurses := true, named := ["shunt/isa.shapes"], apart := false, laid := [("shunt/isa.shapes", laid_shunt_isa_shapes)], narrowed := true }
def ShrinkNothingUptoSaid : Prop := shrinkNothingUptoRow.holds Tryz.pinned (OpenSpec.upto shrinkNothingSpec)

end Rows
end Go.Proofs.YtgjdmncoonceaaaGreatDoor
