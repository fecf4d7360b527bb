/- CompMeans: what alive() answers over the listed variables: true. By the kernel,one run. -/
import Derived.Test.YtbimikjajohflaaGreatDoorRows
import Derived.Test.YtbimikjajohflaaGreatDoorAmMB3
namespace Go.Proofs.YtbimikjajohflaaGreatDoor.compMeans
open Go.Am
set_option maxRecDepth 1000000
noncomputable abbrev lG:=rowsOf Tryz.prog 254 Tryz.prog.globals.size Rows.compMeansRow.laid
noncomputable abbrev n0:=Tryz.prog.globals.size+Rows.compMeansRow.laid.length
theorem run:p9 (.bool true) (gv (ak Tryz.prog) (iL lG []) 100000 7 [] none (yp lG n0))=true:=by decide +kernel
end Go.Proofs.YtbimikjajohflaaGreatDoor.compMeans
