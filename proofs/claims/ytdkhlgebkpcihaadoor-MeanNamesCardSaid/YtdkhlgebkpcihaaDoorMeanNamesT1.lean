/- MeanNames: the runs of calls at written heaps, part 1. By the kernel. -/
import Derived.Test.YtdkhlgebkpcihaaDoorMeanNamesT
namespace Go.Proofs.YtdkhlgebkpcihaaDoor.meanNames
open Go.Am
set_option maxRecDepth 1000000
theorem ran1 : ranL e1 (acallT (cProg Tryd.prog) (toldL []) 100000 e1.f e1.args none (heapOf e1.hin e1.nin)) = true := by decide +kernel
theorem ran3 : ranL e3 (acallT (cProg Tryd.prog) (toldL []) 100000 e3.f e3.args none (heapOf e3.hin e3.nin)) = true := by decide +kernel
end Go.Proofs.YtdkhlgebkpcihaaDoor.meanNames
