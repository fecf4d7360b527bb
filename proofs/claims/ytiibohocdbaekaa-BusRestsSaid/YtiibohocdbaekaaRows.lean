/-
  No cell of these rows narrows 'for every input' (looked for: loops, veiled, ifaces, maps, wideKeys, modest, calm, conditions, laid).
  DERIVED. THE GIVEN ROWS OF THIS SEAT. 6 by the template 'for every input the law returns true; each argument reads behind the call as it read before'; 0 by the template 'total and deterministic' (their statements: YtiibohocdbaekaaTotals.lean).
  GIVEN WITH THE SEED: the statements are not yours to turn. If you find one false, say at which input.
  Laid BY PROGRAM, IN A SANDBOX (cutbox-rows.mjs): the forced cells as the released guide's own fill.sh prints them over the translation e43ec0ca09369f79… (all of the seat's roots in one cut). By AI agents, Wed Nov 11 2026. No macro, syntax, notation, axiom, sorry.
-/
import Derived.Test.YtiibohocdbaekaaChecked
import GoSem.Claim
import GoSem.ClaimJoined
import GoSem.ClaimMapViews
import Derived.JoinedTies
import Derived.KernelRfl
namespace Go.Proofs.Ytiibohocdbaekaa
/- THE CELL 'sum', in the pinned program and in every row, IS THE sha256 OF THE DUMP (.gsa) THAT YtiibohocdbaekaaProg.lean LOADS. Nothing in Lean hashes anything: it is a label: what it is worth is what the hold of that sum in a sandbox is worth. -/
noncomputable def Try.pinned : Pinned := { name := "ytiibohocdbaekaa", sum := "e43ec0ca09369f7916ebd17fbc07b61a5a0f18afb5dd2734439ce8828a37517c", checked := Try.checked }
namespace Rows
def none {H : Type} : Left H := { results := [], args := [] }

/-- 'shuntlaw04.NodeMarks': WHATEVER THE INPUT: true; the input reads as it did. -/
def nodeMarksSpec : ChangeSpec := { name := "nodeMarks", fn := fun _ => fun
  | [d1, d2] => { results := [.lit (.bool true)], args := [d1, d2] }
  | _ => none }
def nodeMarksRow : OpenClaim := { program := "ytiibohocdbaekaa", sum := "e43ec0ca09369f7916ebd17fbc07b61a5a0f18afb5dd2734439ce8828a37517c", func := "shunt/shuntlaw04.NodeMarks", spec := "nodeMarks", unfollowed := true, recurses := true, apart := false }
def NodeMarksSaid : Prop := nodeMarksRow.holds Try.pinned (OpenSpec.ofChange nodeMarksSpec)

/-- ITS FALSE NEIGHBOUR: 'it returns false'. Refute it at one input. -/
def nodeMarksWrong : ChangeSpec := { name := "nodeMarks", fn := fun _ => fun
  | [d1, d2] => { results := [.lit (.bool false)], args := [d1, d2] }
  | _ => none }
def NodeMarksWrongFalsely : Prop := nodeMarksRow.holds Try.pinned (OpenSpec.ofChange nodeMarksWrong)

/-- 'shuntlaw04.NodeBack': WHATEVER THE INPUT: true; the input reads as it did. -/
def nodeBackSpec : ChangeSpec := { name := "nodeBack", fn := fun _ => fun
  | [d1, d2, d3] => { results := [.lit (.bool true)], args := [d1, d2, d3] }
  | _ => none }
def nodeBackRow : OpenClaim := { program := "ytiibohocdbaekaa", sum := "e43ec0ca09369f7916ebd17fbc07b61a5a0f18afb5dd2734439ce8828a37517c", func := "shunt/shuntlaw04.NodeBack", spec := "nodeBack", unfollowed := true, recurses := true, apart := false }
def NodeBackSaid : Prop := nodeBackRow.holds Try.pinned (OpenSpec.ofChange nodeBackSpec)

/-- ITS FALSE NEIGHBOUR: 'it returns false'. Refute it at one input. -/
def nodeBackWrong : ChangeSpec := { name := "nodeBack", fn := fun _ => fun
  | [d1, d2, d3] => { results := [.lit (.bool false)], args := [d1, d2, d3] }
  | _ => none }
def NodeBackWrongFalsely : Prop := nodeBackRow.holds Try.pinned (OpenSpec.ofChange nodeBackWrong)

/-- 'shuntlaw05.BusRests': WHATEVER THE INPUT: true; the input reads as it did. -/
def busRestsSpec : ChangeSpec := { name := "busRests", fn := fun _ => fun
  | [d1, d2, d3] => { results := [.lit (.bool true)], args := [d1, d2, d3] }
  | _ => none }
def busRestsRow : OpenClaim := { program := "ytiibohocdbaekaa", sum := "e43ec0ca09369f7916ebd17fbc07b61a5a0f18afb5dd2734439ce8828a37517c", func := "shunt/shuntlaw05.BusRests", spec := "busRests", unfollowed := true, recurses := true, apart := false }
def BusRestsSaid : Prop := busRestsRow.holds Try.pinned (OpenSpec.ofChange busRestsSpec)

/-- ITS FALSE NEIGHBOUR: 'it returns false'. Refute it at one input. -/
def busRestsWrong : ChangeSpec := { name := "busRests", fn := fun _ => fun
  | [d1, d2, d3] => { results := [.lit (.bool false)], args := [d1, d2, d3] }
  | _ => none }
def BusRestsWrongFalsely : Prop := busRestsRow.holds Try.pinned (OpenSpec.ofChange busRestsWrong)

/-- 'shuntlaw05.BusHidden': WHATEVER THE INPUT: true; the input reads as it did. -/
def busHiddenSpec : ChangeSpec := { name := "busHidden", fn := fun _ => fun
  | [d1, d2] => { results := [.lit (.bool true)], args := [d1, d2] }
  | _ => none }
def busHiddenRow : OpenClaim := { program := "ytiibohocdbaekaa", sum := "e43ec0ca09369f7916ebd17fbc07b61a5a0f18afb5dd2734439ce8828a37517c", func := "shunt/shuntlaw05.BusHidden", spec := "busHidden", unfollowed := true, recurses := true, apart := false }
def BusHiddenSaid : Prop := busHiddenRow.holds Try.pinned (OpenSpec.ofChange busHiddenSpec)

/-- ITS FALSE NEIGHBOUR: 'it returns false'. Refute it at one input. -/
def busHiddenWrong : ChangeSpec := { name := "busHidden", fn := fun _ => fun
  | [d1, d2] => { results := [.lit (.bool false)], args := [d1, d2] }
  | _ => none }
def BusHiddenWrongFalsely : Prop := busHiddenRow.holds Try.pinned (OpenSpec.ofChange busHiddenWrong)

/-- 'shuntlaw05.BusOne': WHATEVER THE INPUT: true; the input reads as it did. -/
def busOneSpec : ChangeSpec := { name := "busOne", fn := fun _ => fun
  | [d1, d2] => { results := [.lit (.bool true)], args := [d1, d2] }
  | _ => none }
def busOneRow : OpenClaim := { program := "ytiibohocdbaekaa", sum := "e43ec0ca09369f7916ebd17fbc07b61a5a0f18afb5dd2734439ce8828a37517c", func := "shunt/shuntlaw05.BusOne", spec := "busOne", unfollowed := true, recurses := true, apart := false }
def BusOneSaid : Prop := busOneRow.holds Try.pinned (OpenSpec.ofChange busOneSpec)

/-- ITS FALSE NEIGHBOUR: 'it returns false'. Refute it at one input. -/
def busOneWrong : ChangeSpec := { name := "busOne", fn := fun _ => fun
  | [d1, d2] => { results := [.lit (.bool false)], args := [d1, d2] }
  | _ => none }
def BusOneWrongFalsely : Prop := busOneRow.holds Try.pinned (OpenSpec.ofChange busOneWrong)

/-- 'shuntlaw05.BusMemory': WHATEVER THE INPUT: true; the input reads as it did. -/
def busMemorySpec : ChangeSpec := { name := "busMemory", fn := fun _ => fun
  | [d1, d2] => { results := [.lit (.bool true)], args := [d1, d2] }
  | _ => none }
def busMemoryRow : OpenClaim := { program := "ytiibohocdbaekaa", sum := "e43ec0ca09369f7916ebd17fbc07b61a5a0f18afb5dd2734439ce8828a37517c", func := "shunt/shuntlaw05.BusMemory", spec := "busMemory", unfollowed := true, recurses := true, apart := false }
def BusMemorySaid : Prop := busMemoryRow.holds Try.pinned (OpenSpec.ofChange busMemorySpec)

/-- ITS FALSE NEIGHBOUR: 'it returns false'. Refute it at one input. -/
def busMemoryWrong : ChangeSpec := { name := "busMemory", fn := fun _ => fun
  | [d1, d2] => { results := [.lit (.bool false)], args := [d1, d2] }
  | _ => none }
def BusMemoryWrongFalsely : Prop := busMemoryRow.holds Try.pinned (OpenSpec.ofChange busMemoryWrong)

/- THE SECOND FORM. 'bulk': how many values and letters a reading holds, each counted each time it is reached (what is shared counts as often as it is met; a slice's spare places count too). A statement '..UptoSaid' is the law's where the arguments, and the package variables that the reading takes, are together of bulk at most 1048576: NARROWER than '..Said'. Prove '..Said' where nothing that the law and all that it calls make is longer than what came in: it says more and counts as full. Else prove '..UptoSaid'. A law counts once. -/
mutual
def uptoBulk {H : Type} : DataW H → Nat
  | .lit (.string bytes) => bytes.length + 1
  | .lit _ => 1
  | .nil => 1
  | .ptr d => uptoBulk d + 1
  | .slice elems spare => uptoBulkAll elems + uptoBulkAll spare + 1
  | .agg parts => uptoBulkAll parts + 1
  | .iface _ d => uptoBulk d + 1
  | .map entries => uptoBulkEntries entries + 1
  | .held _ => 1
def uptoBulkAll {H : Type} : List (DataW H) → Nat
  | [] => 0
  | d :: r => uptoBulk d + uptoBulkAll r
def uptoBulkEntries {H : Type} : List (Lit × DataW H) → Nat
  | [] => 0
  | x :: r => uptoBulkEntry x + uptoBulkEntries r
def uptoBulkEntry {H : Type} : Lit × DataW H → Nat
  | (.string bytes, d) => bytes.length + uptoBulk d + 1
  | (_, d) => uptoBulk d + 1
 end
def uptoSmall : (H : Type) → List (DataW H) → Bool := fun _ ds => decide (uptoBulkAll ds ≤ 1048576)
def OpenSpec.upto (s : _root_.Go.ChangeSpec) : _root_.Go.OpenSpec := { _root_.Go.OpenSpec.ofChange s with cond := some uptoSmall }

/-- 'shuntlaw04.NodeMarks', WHERE WHAT IT READS IS OF BULK AT MOST 1048576: true; the input reads as it did. -/
def nodeMarksUptoRow : OpenClaim := { program := "ytiibohocdbaekaa", sum := "e43ec0ca09369f7916ebd17fbc07b61a5a0f18afb5dd2734439ce8828a37517c", func := "shunt/shuntlaw04.NodeMarks", spec := "nodeMarks", unfollowed := true, recurses := true, apart := false, narrowed := true }
def NodeMarksUptoSaid : Prop := nodeMarksUptoRow.holds Try.pinned (OpenSpec.upto nodeMarksSpec)

/-- 'shuntlaw04.NodeBack', WHERE WHAT IT READS IS OF BULK AT MOST 1048576: true; the input reads as it did. -/
def nodeBackUptoRow : OpenClaim := { program := "ytiibohocdbaekaa", sum := "e43ec0ca09369f7916ebd17fbc07b61a5a0f18afb5dd2734439ce8828a37517c", func := "shunt/shuntlaw04.NodeBack", spec := "nodeBack", unfollowed := true, recurses := true, apart := false, narrowed := true }
def NodeBackUptoSaid : Prop := nodeBackUptoRow.holds Try.pinned (OpenSpec.upto nodeBackSpec)

/-- 'shuntlaw05.BusRests', WHERE WHAT IT READS IS OF BULK AT MOST 1048576: true; the input reads as it did. -/
def busRestsUptoRow : OpenClaim := { program := "ytiibohocdbaekaa", sum := "e43ec0ca09369f7916ebd17fbc07b61a5a0f18afb5dd2734439ce8828a37517c", func := "shunt/shuntlaw05.BusRests", spec := "busRests", unfollowed := true, recurses := true, apart := false, narrowed := true }
def BusRestsUptoSaid : Prop := busRestsUptoRow.holds Try.pinned (OpenSpec.upto busRestsSpec)

/-- 'shuntlaw05.BusHidden', WHERE WHAT IT READS IS OF BULK AT MOST 1048576: true; the input reads as it did. -/
def busHiddenUptoRow : OpenClaim := { program := "ytiibohocdbaekaa", sum := "e43ec0ca09369f7916ebd17fbc07b61a5a0f18afb5dd2734439ce8828a37517c", func := "shunt/shuntlaw05.BusHidden", spec := "busHidden", unfollowed := true, recurses := true, apart := false, narrowed := true }
def BusHiddenUptoSaid : Prop := busHiddenUptoRow.holds Try.pinned (OpenSpec.upto busHiddenSpec)

/-- 'shuntlaw05.BusOne', WHERE WHAT IT READS IS OF BULK AT MOST 1048576: true; the input reads as it did. -/
def busOneUptoRow : OpenClaim := { program := "ytiibohocdbaekaa", sum := "e43ec0ca09369f7916ebd17fbc07b61a5a0f18afb5dd2734439ce8828a37517c", func := "shunt/shuntlaw05.BusOne", spec := "busOne", unfollowed := true, recurses := true, apart := false, narrowed := true }
def BusOneUptoSaid : Prop := busOneUptoRow.holds Try.pinned (OpenSpec.upto busOneSpec)

/-- 'shuntlaw05.BusMemory', WHERE WHAT IT READS IS OF BULK AT MOST 1048576: true; the input reads as it did. -/
def busMemoryUptoRow : OpenClaim := { program := "ytiibohocdbaekaa", sum := "e43ec0ca09369f7916ebd17fbc07b61a5a0f18afb5dd2734439ce8828a37517c", func := "shunt/shuntlaw05.BusMemory", spec := "busMemory", unfollowed := true, recurses := true, apart := false, narrowed := true }
def BusMemoryUptoSaid : Prop := busMemoryUptoRow.holds Try.pinned (OpenSpec.upto busMemorySpec)

end Rows
end Go.Proofs.Ytiibohocdbaekaa
