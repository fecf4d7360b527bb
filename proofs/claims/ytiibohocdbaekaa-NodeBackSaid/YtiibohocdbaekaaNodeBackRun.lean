/- NodeBack: what alive() answers over the listed variables: true. By the kernel,one run. -/
import Derived.Test.YtiibohocdbaekaaRows
import Derived.Test.YtiibohocdbaekaaAmQB3
namespace Go.Proofs.Ytiibohocdbaekaa.nodeBack
open Go.Am
set_option maxRecDepth 1000000
noncomputable abbrev gl0:=rowsOf Try.prog 0 Try.prog.globals.size Rows.nodeBackRow.laid
noncomputable abbrev n0:=Try.prog.globals.size+Rows.nodeBackRow.laid.length
theorem run:retIs (.bool true) (acallT (cProg Try.prog) (toldOf gl0 []) 100000 9 [] none (vd gl0 n0))=true:=by decide +kernel
end Go.Proofs.Ytiibohocdbaekaa.nodeBack
