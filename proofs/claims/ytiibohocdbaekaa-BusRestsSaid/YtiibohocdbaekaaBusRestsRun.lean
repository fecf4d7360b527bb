/- BusRests: what alive() answers over the listed variables: true. By the kernel,one run. -/
import Derived.Test.YtiibohocdbaekaaRows
import Derived.Test.YtiibohocdbaekaaAmRB3
namespace Go.Proofs.Ytiibohocdbaekaa.busRests
open Go.Am
set_option maxRecDepth 1000000
noncomputable abbrev mU:=rowsOf Try.prog 0 Try.prog.globals.size Rows.busRestsRow.laid
noncomputable abbrev n0:=Try.prog.globals.size+Rows.busRestsRow.laid.length
theorem run:pD (.bool true) (fL (aj Try.prog) (iA mU []) 100000 20 [] none (lh mU n0))=true:=by decide +kernel
end Go.Proofs.Ytiibohocdbaekaa.busRests
