/- TraceBack: what alive() answers over the listed variables: true. By the kernel, one run. -/
import Derived.Test.YtkfheegmlgfdoaaDoorRows
import Derived.Test.YtkfheegmlgfdoaaDoorAmKB3
namespace Go.Proofs.YtkfheegmlgfdoaaDoor.traceBack
open Go.Am
set_option maxRecDepth 1000000
noncomputable abbrev gl0 := rowsOf Tryd.prog 164 Tryd.prog.globals.size Rows.traceBackRow.laid
noncomputable abbrev n0 := Tryd.prog.globals.size + Rows.traceBackRow.laid.length
theorem run : retIs (.bool true) (acallT (cProg Tryd.prog) (toldOf gl0 []) 100000 15 [] none (zk gl0 n0)) = true := by decide +kernel
end Go.Proofs.YtkfheegmlgfdoaaDoor.traceBack
