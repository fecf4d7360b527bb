/- MeanNames: what the machine answers over the listed variables, calls told: true. By the kernel. -/
import Derived.Test.YtdkhlgebkpcihaaDoorMeanNamesT
namespace Go.Proofs.YtdkhlgebkpcihaaDoor.meanNames
open Go.Am
set_option maxRecDepth 1000000
theorem run : retTrue (acallT (cProg Tryd.prog) (toldL [e0, e1, e2, e3, e4, e5]) 100000 3 [] none (laidHeap Tryd.prog 136 Rows.meanNamesRow.laid)) = true := by decide +kernel
end Go.Proofs.YtdkhlgebkpcihaaDoor.meanNames
