/- NodeNames: what the machine answers over no variable: true. By the kernel, one run. -/
import Derived.Test.YteahkbbklelgjaaRows
import Derived.Test.YteahkbbklelgjaaAmClosed
namespace Go.Proofs.Yteahkbbklelgjaa.nodeNames
open Go.Am
set_option maxRecDepth 1000000
theorem run : retTrue (acall (cProg Try.prog) 100000 3 [] none (givenHeap [] Try.prog.globals.size)) = true := by decide +kernel
end Go.Proofs.Yteahkbbklelgjaa.nodeNames
