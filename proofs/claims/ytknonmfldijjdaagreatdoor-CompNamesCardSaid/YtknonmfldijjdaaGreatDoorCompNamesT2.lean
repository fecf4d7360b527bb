/- CompNames: the runs of calls at written heaps, part 2. By the kernel. -/
import Derived.Test.YtknonmfldijjdaaGreatDoorCompNamesT
namespace Go.Proofs.YtknonmfldijjdaaGreatDoor.compNames
open Go.Am
set_option maxRecDepth 1000000
theorem ran2 : ranL e2 (acallT (cProg Tryz.prog) (toldL []) 100000 e2.f e2.args none (heapOf e2.hin e2.nin)) = true := by decide +kernel
theorem ran3 : ranL e3 (acallT (cProg Tryz.prog) (toldL []) 100000 e3.f e3.args none (heapOf e3.hin e3.nin)) = true := by decide +kernel
end Go.Proofs.YtknonmfldijjdaaGreatDoor.compNames
