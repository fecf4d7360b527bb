/- CompNames: the runs of calls at written heaps, part 0. By the kernel. -/
import Derived.Test.YtknonmfldijjdaaGreatDoorCompNamesT
namespace Go.Proofs.YtknonmfldijjdaaGreatDoor.compNames
open Go.Am
set_option maxRecDepth 1000000
theorem ran0 : ranL e0 (acallT (cProg Tryz.prog) (toldL []) 100000 e0.f e0.args none (heapOf e0.hin e0.nin)) = true := by decide +kernel
theorem ran5 : ranL e5 (acallT (cProg Tryz.prog) (toldL []) 100000 e5.f e5.args none (heapOf e5.hin e5.nin)) = true := by decide +kernel
end Go.Proofs.YtknonmfldijjdaaGreatDoor.compNames
