/- LangNames: what the machine answers over the listed variables: true. By the kernel, one run. -/
import Derived.Test.YtneckgomehchjaaDoorRows
import Derived.Test.YtneckgomehchjaaDoorAmClosed
namespace Go.Proofs.YtneckgomehchjaaDoor.langNames
open Go.Am
set_option maxRecDepth 1000000
theorem run : retTrue (acall (cProg Tryd.prog) 100000 3 [] none (laidHeap Tryd.prog 139 Rows.langNamesRow.laid)) = true := by decide +kernel
end Go.Proofs.YtneckgomehchjaaDoor.langNames
