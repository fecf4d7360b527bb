/- SoloNames: what the machine answers over the listed variables: true. By the kernel, one run. -/
import Derived.Test.YtcfpjnmfecamdaaGreatDoorRows
import Derived.Test.YtcfpjnmfecamdaaGreatDoorAmClosed
namespace Go.Proofs.YtcfpjnmfecamdaaGreatDoor.soloNames
open Go.Am
set_option maxRecDepth 1000000
theorem run : retTrue (acall (cProg Tryz.prog) 100000 3 [] none (laidHeap Tryz.prog 227 Rows.soloNamesRow.laid)) = true := by decide +kernel
end Go.Proofs.YtcfpjnmfecamdaaGreatDoor.soloNames
