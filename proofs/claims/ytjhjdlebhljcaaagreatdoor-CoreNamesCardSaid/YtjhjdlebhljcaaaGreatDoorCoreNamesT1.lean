/- CoreNames: the runs of calls at written heaps, part 1. By the kernel. -/
import Derived.Test.YtjhjdlebhljcaaaGreatDoorCoreNamesT
namespace Go.Proofs.YtjhjdlebhljcaaaGreatDoor.coreNames
open Go.Am
set_option maxRecDepth 1000000
theorem ran1 : ranL e1 (acallT (cProg Tryz.prog) (toldL []) 100000 e1.f e1.args none (heapOf e1.hin e1.nin)) = true := by decide +kernel
theorem ran2 : ranL e2 (acallT (cProg Tryz.prog) (toldL []) 100000 e2.f e2.args none (heapOf e2.hin e2.nin)) = true := by decide +kernel
end Go.Proofs.YtjhjdlebhljcaaaGreatDoor.coreNames
