/- CoreNames: what the machine answers over the listed variables, calls told: true. By the kernel. -/
import Derived.Test.YtjhjdlebhljcaaaGreatDoorCoreNamesT
namespace Go.Proofs.YtjhjdlebhljcaaaGreatDoor.coreNames
open Go.Am
set_option maxRecDepth 1000000
theorem run : retTrue (acallT (cProg Tryz.prog) (toldL [e0, e1, e2, e3]) 100000 3 [] none (laidHeap Tryz.prog 0 Rows.coreNamesRow.laid)) = true := by decide +kernel
end Go.Proofs.YtjhjdlebhljcaaaGreatDoor.coreNames
