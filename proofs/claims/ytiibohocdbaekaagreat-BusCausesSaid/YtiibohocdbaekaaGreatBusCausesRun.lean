/- BusCauses: what alive() answers over the listed variables: true. By the kernel,one run. -/
import Derived.Test.YtiibohocdbaekaaGreatRows
import Derived.Test.YtiibohocdbaekaaGreatAmCB3
namespace Go.Proofs.YtiibohocdbaekaaGreat.busCauses
open Go.Am
set_option maxRecDepth 1000000
noncomputable abbrev oL:=rowsOf Tryz.prog 0 Tryz.prog.globals.size Rows.busCausesRow.laid
noncomputable abbrev n0:=Tryz.prog.globals.size+Rows.busCausesRow.laid.length
theorem run:rH (.bool true) (gF (aP Tryz.prog) (iZ oL []) 100000 4 [] none (vd oL n0))=true:=by decide +kernel
end Go.Proofs.YtiibohocdbaekaaGreat.busCauses
