/- TraceJoined: what alive() answers over the listed variables: true. By the kernel, one run. -/
import Derived.Test.YtkfheegmlgfdoaaDoorRows
import Derived.Test.YtkfheegmlgfdoaaDoorAmB3
namespace Go.Proofs.YtkfheegmlgfdoaaDoor.traceJoined
open Go.Am
set_option maxRecDepth 1000000
noncomputable abbrev gl0 := rowsOf Tryd.prog 0 Tryd.prog.globals.size Rows.traceJoinedRow.laid
noncomputable abbrev n0 := Tryd.prog.globals.size + Rows.traceJoinedRow.laid.length
theorem run : retIs (.bool true) (acallT (cProg Tryd.prog) (toldOf gl0 []) 100000 15 [] none (givenHeap gl0 n0)) = true := by decide +kernel
end Go.Proofs.YtkfheegmlgfdoaaDoor.traceJoined
