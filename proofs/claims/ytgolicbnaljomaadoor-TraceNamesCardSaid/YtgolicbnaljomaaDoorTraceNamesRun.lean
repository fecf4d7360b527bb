/- TraceNames: what the machine answers over the listed variables: true. By the kernel, one run. -/
import Derived.Test.YtgolicbnaljomaaDoorRows
import Derived.Test.YtgolicbnaljomaaDoorAmClosed
namespace Go.Proofs.YtgolicbnaljomaaDoor.traceNames
open Go.Am
set_option maxRecDepth 1000000
theorem run : retTrue (acall (cProg Tryd.prog) 100000 3 [] none (laidHeap Tryd.prog 132 Rows.traceNamesRow.laid)) = true := by decide +kernel
end Go.Proofs.YtgolicbnaljomaaDoor.traceNames
