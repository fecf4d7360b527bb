/- CompNames: the runs of calls at written heaps, part 1. By the kernel. -/
import Derived.Test.YtknonmfldijjdaaGreatDoorCompNamesT
namespace Go.Proofs.YtknonmfldijjdaaGreatDoor.compNames
open Go.Am
set_option maxRecDepth 1000000
theorem ran1 : ranL e1 (acallT (cProg Tryz.prog) (toldL []) 100000 e1.f e1.args none (heapOf e1.hin e1.nin)) = true := by decide +kernel
theorem ran4 : ranL e4 (acallT (cProg Tryz.prog) (toldL []) 100000 e4.f e4.args none (heapOf e4.hin e4.nin)) = true := by decide +kernel
end Go.Proofs.YtknonmfldijjdaaGreatDoor.compNames
