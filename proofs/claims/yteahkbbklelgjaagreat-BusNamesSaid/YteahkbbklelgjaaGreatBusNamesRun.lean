/- BusNames: what the machine answers over no variable: true. By the kernel, one run. -/
import Derived.Test.YteahkbbklelgjaaGreatRows
import Derived.Test.YteahkbbklelgjaaGreatAmClosed
namespace Go.Proofs.YteahkbbklelgjaaGreat.busNames
open Go.Am
set_option maxRecDepth 1000000
theorem run : retTrue (acall (cProg Tryz.prog) 100000 3 [] none (givenHeap [] Tryz.prog.globals.size)) = true := by decide +kernel
end Go.Proofs.YteahkbbklelgjaaGreat.busNames
