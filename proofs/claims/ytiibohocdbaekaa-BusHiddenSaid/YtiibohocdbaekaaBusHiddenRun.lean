/- BusHidden: what alive() answers over the listed variables: true. By the kernel,one run. -/
import Derived.Test.YtiibohocdbaekaaRows
import Derived.Test.YtiibohocdbaekaaAmHB3
namespace Go.Proofs.Ytiibohocdbaekaa.busHidden
open Go.Am
set_option maxRecDepth 1000000
noncomputable abbrev mS:=rowsOf Try.prog 0 Try.prog.globals.size Rows.busHiddenRow.laid
noncomputable abbrev n0:=Try.prog.globals.size+Rows.busHiddenRow.laid.length
theorem run:pU (.bool true) (fJ (aj Try.prog) (gZ mS []) 100000 20 [] none (kV mS n0))=true:=by decide +kernel
end Go.Proofs.Ytiibohocdbaekaa.busHidden
