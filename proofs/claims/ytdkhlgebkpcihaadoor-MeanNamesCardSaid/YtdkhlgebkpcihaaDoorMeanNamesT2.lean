/- MeanNames: the runs of calls at written heaps, part 2. By the kernel. -/
import Derived.Test.YtdkhlgebkpcihaaDoorMeanNamesT
namespace Go.Proofs.YtdkhlgebkpcihaaDoor.meanNames
open Go.Am
set_option maxRecDepth 1000000
theorem ran2 : ranL e2 (acallT (cProg Tryd.prog) (toldL []) 100000 e2.f e2.args none (heapOf e2.hin e2.nin)) = true := by decide +kernel
theorem ran4 : ranL e4 (acallT (cProg Tryd.prog) (toldL []) 100000 e4.f e4.args none (heapOf e4.hin e4.nin)) = true := by decide +kernel
end Go.Proofs.YtdkhlgebkpcihaaDoor.meanNames
