/- BusMemory: what alive() answers over the listed variables: true. By the kernel,one run. -/
import Derived.Test.YtiibohocdbaekaaRows
import Derived.Test.YtiibohocdbaekaaAmMB3
namespace Go.Proofs.Ytiibohocdbaekaa.busMemory
open Go.Am
set_option maxRecDepth 1000000
noncomputable abbrev mV:=rowsOf Try.prog 0 Try.prog.globals.size Rows.busMemoryRow.laid
noncomputable abbrev n0:=Try.prog.globals.size+Rows.busMemoryRow.laid.length
theorem run:pB (.bool true) (fF (ak Try.prog) (iw mV []) 100000 20 [] none (lH mV n0))=true:=by decide +kernel
end Go.Proofs.Ytiibohocdbaekaa.busMemory
