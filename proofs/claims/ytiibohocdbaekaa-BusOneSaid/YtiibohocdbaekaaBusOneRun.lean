/- BusOne: what alive() answers over the listed variables: true. By the kernel,one run. -/
import Derived.Test.YtiibohocdbaekaaRows
import Derived.Test.YtiibohocdbaekaaAmKB3
namespace Go.Proofs.Ytiibohocdbaekaa.busOne
open Go.Am
set_option maxRecDepth 1000000
noncomputable abbrev mX:=rowsOf Try.prog 0 Try.prog.globals.size Rows.busOneRow.laid
noncomputable abbrev n0:=Try.prog.globals.size+Rows.busOneRow.laid.length
theorem run:pw (.bool true) (fV (aj Try.prog) (iy mX []) 100000 20 [] none (lP mX n0))=true:=by decide +kernel
end Go.Proofs.Ytiibohocdbaekaa.busOne
