/-
  NARROWER THAN 'FOR EVERY INPUT', by the rows' own cells (each row's printed sentence says how): CoreBudget: laid · CoreBack: laid.
  DERIVED. THE GIVEN ROWS OF THIS SEAT. 2 by the template 'for every input the law returns true; each argument reads behind the call as it read before'; 0 by the template 'total and deterministic' (their statements: YtpnpgihabgglcaaGreatDoorTotals.lean).
  GIVEN WITH THE SEED: the statements are not yours to turn. If you find one false, say at which input.
  Laid BY PROGRAM, IN A SANDBOX (cutbox-rows.mjs): the forced cells as the released guide's own fill.sh prints them over the translation ae69e0362b4bfaaa… (all of the seat's roots in one cut). By AI agents, Wed Nov 11 2026. No macro, syntax, notation, axiom, sorry.
-/
import Derived.Test.YtpnpgihabgglcaaGreatDoorChecked
import GoSem.Claim
import GoSem.ClaimJoined
import GoSem.ClaimMapViews
import Derived.JoinedTies
import Derived.KernelRfl
namespace Go.Proofs.YtpnpgihabgglcaaGreatDoor
/- THE CELL 'sum', in the pinned program and in every row, IS THE sha256 OF THE DUMP (.gsa) THAT YtpnpgihabgglcaaGreatDoorProg.lean LOADS. Nothing in Lean hashes anything: it is a label: what it is worth is what the hold of that sum in a sandbox is worth. -/
noncomputable def Tryz.pinned : Pinned := { name := "ytpnpgihabgglcaagreatdoor", sum := "ae69e0362b4bfaaa3aa9456ae0687c6412d4a9229d9bdaad86f8af6400de3ef0", checked := Tryz.checked }
namespace Rows
def none {H : Type} : Left H := { results := [], args := [] }

/- WHAT THE LISTED PACKAGE-LEVEL VARIABLES READ AS WHEN THE CALL BEGINS. Each datum BY PROGRAM (the guide's laid-datum.mjs) off the statement by which the dump's own 'gosem.cut.vars' lays the variable. In a bare row this is a premise. The card (YtpnpgihabgglcaaGreatDoorCards.lean) ties it to the program's text. -/
def laid_shunt_isa_shapes {H : Type} : DataW H := .agg [.agg [.lit (.string []), .lit (.string [])], .agg [.lit (.string [104, 97, 108, 116]), .lit (.string [])], .agg [.lit (.string [115, 101, 116]), .lit (.string [65, 73])], .agg [.lit (.string [109, 111, 118]), .lit (.string [65, 66])], .agg [.lit (.string [97, 100, 100]), .lit (.string [65, 66, 67])], .agg [.lit (.string [115, 117, 98]), .lit (.string [65, 66, 67])], .agg [.lit (.string [109, 117, 108]), .lit (.string [65, 66, 67])], .agg [.lit (.string [97, 110, 100]), .lit (.string [65, 66, 67])], .agg [.lit (.string [120, 111, 114]), .lit (.string [65, 66, 67])], .agg [.lit (.string [115, 104, 108]), .lit (.string [65, 66, 67])], .agg [.lit (.string [115, 104, 114]), .lit (.string [65, 66, 67])], .agg [.lit (.string [108, 111, 97, 100]), .lit (.string [65, 66, 73])], .agg [.lit (.string [115, 116, 111, 114, 101]), .lit (.string [65, 66, 73])], .agg [.lit (.string [106, 117, 109, 112]), .lit (.string [73])], .agg [.lit (.string [101, 113]), .lit (.string [65, 66, 73])], .agg [.lit (.string [110, 101]), .lit (.string [65, 66, 73])], .agg [.lit (.string [108, 116]), .lit (.string [65, 66, 73])], .agg [.lit (.string [98, 101, 103, 105, 110]), .lit (.string [])], .agg [.lit (.string [101, 110, 100]), .lit (.string [])]]

/-- 'shuntlaw11.CoreBudget': WHATEVER THE INPUT: true; the input reads as it did. -/
def coreBudgetSpec : ChangeSpec := { name := "coreBudget", fn := fun _ => fun
  | [d1, d2] => { results := [.lit (.bool true)], args := [d1, d2] }
  | _ => none }
def coreBudgetRow : OpenClaim := { program := "ytpnpgihabgglcaagreatdoor", sum := "ae69e0362b4bfaaa3aa9456ae0687c6412d4a9229d9bdaad86f8af6400de3ef0", func := "shunt/shuntlaw11.CoreBudget", spec := "coreBudget", inPlace := ["internal/bytealg.IndexByteString"], unfollowed := true, recurses := true, named := ["shunt/isa.shapes"], apart := false, laid := [("shunt/isa.shapes", laid_shunt_isa_shapes)] }
def CoreBudgetSaid : Prop := coreBudgetRow.holds Tryz.pinned (OpenSpec.ofChange coreBudgetSpec)

/-- ITS FALSE NEIGHBOUR: 'it returns false'. Refute it at one input. -/
def coreBudgetWrong : ChangeSpec := { name := "coreBudget", fn := fun _ => fun
  | [d1, d2] => { results := [.lit (.bool false)], args := [d1, d2] }
  | _ => none }
def CoreBudgetWrongFalsely : Prop := coreBudgetRow.holds Tryz.pinned (OpenSpec.ofChange coreBudgetWrong)

/-- 'shuntlaw11.CoreBack': WHATEVER THE INPUT: true; the input reads as it did. -/
def coreBackSpec : ChangeSpec := { name := "coreBack", fn := fun _ => fun
  | [d1, d2] => { results := [.lit (.bool true)], args := [d1, d2] }
  | _ => none }
def coreBackRow : OpenClaim := { program := "ytpnpgihabgglcaagreatdoor", sum := "ae69e0362b4bfaaa3aa9456ae0687c6412d4a9229d9bdaad86f8af6400de3ef0", func := "shunt/shuntlaw11.CoreBack", spec := "coreBack", inPlace := ["internal/bytealg.IndexByteString"], unfollowed := true, recurses := true, named := ["shunt/isa.shapes"], apart := false, laid := [("shunt/isa.shapes", laid_shunt_isa_shapes)] }
def CoreBackSaid : Prop := coreBackRow.holds Tryz.pinned (OpenSpec.ofChange coreBackSpec)

/-- ITS FALSE NEIGHBOUR: 'it returns false'. Refute it at one input. -/
def coreBackWrong : ChangeSpec := { name := "coreBack", fn := fun _ => fun
  | [d1, d2] => { results := [.lit (.bool false)], args := [d1, d2] }
  | _ => none }
def CoreBackWrongFalsely : Prop := coreBackRow.holds Tryz.pinned (OpenSpec.ofChange coreBackWrong)

/- THE SECOND FORM. 'bulk': how many values and letters a reading holds, each counted each time it is reached (what is shared counts as often as it is met; a slice's spare places count too). A statement '..UptoSaid' is the law's where the arguments, and the package variables that the reading takes, are together of bulk at most 1048576: NARROWER than '..Said'. Prove '..Said' where nothing that the law and all that it calls make is longer than what came in: it says more and counts as full. Else prove '..UptoSaid'. A law counts once. -/
mutual
def uptoBulk {H : Type} : DataW H → Nat
  | .lit (.string bytes) => bytes.length + 1
  | .lit _ => 1
  | .nil => 1
  | .ptr d => uptoBulk d + 1
  | .slice elems spare => uptoBulkAll elems + uptoBulkAll spare + 1
  | .agg parts => uptoBulkAll parts + 1
  | .iface _ d => uptoBulk d + 1
  | .map entries => uptoBulkEntries entries + 1
  | .held _ => 1
def uptoBulkAll {H : Type} : List (DataW H) → Nat
  | [] => 0
  | d :: r => uptoBulk d + uptoBulkAll r
def uptoBulkEntries {H : Type} : List (Lit × DataW H) → Nat
  | [] => 0
  | x :: r => uptoBulkEntry x + uptoBulkEntries r
def uptoBulkEntry {H : Type} : Lit × DataW H → Nat
  | (.string bytes, d) => bytes.length + uptoBulk d + 1
  | (_, d) => uptoBulk d + 1
 end
def uptoSmall : (H : Type) → List (DataW H) → Bool := fun _ ds => decide (uptoBulkAll ds ≤ 1048576)
def OpenSpec.upto (s : _root_.Go.ChangeSpec) : _root_.Go.OpenSpec := { _root_.Go.OpenSpec.ofChange s with cond := some uptoSmall }

/-- 'shuntlaw11.CoreBudget', WHERE WHAT IT READS IS OF BULK AT MOST 1048576: true; the input reads as it did. -/
def coreBudgetUptoRow : OpenClaim := { program := "ytpnpgihabgglcaagreatdoor", sum := "ae69e0362b4bfaaa3aa9456ae0687c6412d4a9229d9bdaad86f8af6400de3ef0", func := "shunt/shuntlaw11.CoreBudget", spec := "coreBudget", inPlace := ["internal/bytealg.IndexByteString"], unfollowed := true, recurses := true, named := ["shunt/isa.shapes"], apart := false, laid := [("shunt/isa.shapes", laid_shunt_isa_shapes)], narrowed := true }
def CoreBudgetUptoSaid : Prop := coreBudgetUptoRow.holds Tryz.pinned (OpenSpec.upto coreBudgetSpec)

/-- 'shuntlaw11.CoreBack', WHERE WHAT IT READS IS OF BULK AT MOST 1048576: true; the input reads as it did. -/
def coreBackUptoRow : OpenClaim := { program := "ytpnpgihabgglcaagreatdoor", sum := "ae69e0362b4bfaaa3aa9456ae0687c6412d4a9229d9bdaad86f8af6400de3ef0", func := "shunt/shuntlaw11.CoreBack", spec := "coreBack", inPlace := ["internal/bytealg.IndexByteString"], unfollowed := true, recurses := true, named := ["shunt/isa.shapes"], apart := false, laid := [("shunt/isa.shapes", laid_shunt_isa_shapes)], narrowed := true }
def CoreBackUptoSaid : Prop := coreBackUptoRow.holds Tryz.pinned (OpenSpec.upto coreBackSpec)

end Rows
end Go.Proofs.YtpnpgihabgglcaaGreatDoor
