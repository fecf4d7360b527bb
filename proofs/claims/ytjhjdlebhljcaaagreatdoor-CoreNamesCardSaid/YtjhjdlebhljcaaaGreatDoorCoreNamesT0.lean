/- CoreNames: the runs of calls at written heaps, part 0. By the kernel. -/
import Derived.Test.YtjhjdlebhljcaaaGreatDoorCoreNamesT
namespace Go.Proofs.YtjhjdlebhljcaaaGreatDoor.coreNames
open Go.Am
set_option maxRecDepth 1000000
theorem ran0 : ranL e0 (acallT (cProg Tryz.prog) (toldL []) 100000 e0.f e0.args none (heapOf e0.hin e0.nin)) = true := by decide +kernel
theorem ran3 : ranL e3 (acallT (cProg Tryz.prog) (toldL []) 100000 e3.f e3.args none (heapOf e3.hin e3.nin)) = true := by decide +kernel
end Go.Proofs.YtjhjdlebhljcaaaGreatDoor.coreNames
