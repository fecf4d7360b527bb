/- CompNames: what the machine answers over the listed variables, calls told: true. By the kernel. -/
import Derived.Test.YtknonmfldijjdaaGreatDoorCompNamesT
namespace Go.Proofs.YtknonmfldijjdaaGreatDoor.compNames
open Go.Am
set_option maxRecDepth 1000000
theorem run : retTrue (acallT (cProg Tryz.prog) (toldL [e0, e1, e2, e3, e4, e5]) 100000 3 [] none (laidHeap Tryz.prog 172 Rows.compNamesRow.laid)) = true := by decide +kernel
end Go.Proofs.YtknonmfldijjdaaGreatDoor.compNames
