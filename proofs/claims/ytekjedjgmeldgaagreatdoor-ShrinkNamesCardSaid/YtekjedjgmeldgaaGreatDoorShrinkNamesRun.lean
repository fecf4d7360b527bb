/- ShrinkNames: what the machine answers over the listed variables: true. By the kernel, one run. -/
import Derived.Test.YtekjedjgmeldgaaGreatDoorRows
import Derived.Test.YtekjedjgmeldgaaGreatDoorAmClosed
namespace Go.Proofs.YtekjedjgmeldgaaGreatDoor.shrinkNames
open Go.Am
set_option maxRecDepth 1000000
theorem run : retTrue (acall (cProg Tryz.prog) 100000 3 [] none (laidHeap Tryz.prog 0 Rows.shrinkNamesRow.laid)) = true := by decide +kernel
end Go.Proofs.YtekjedjgmeldgaaGreatDoor.shrinkNames
