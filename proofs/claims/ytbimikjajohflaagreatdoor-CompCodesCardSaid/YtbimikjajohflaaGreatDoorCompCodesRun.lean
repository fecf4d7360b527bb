/- CompCodes: what alive() answers over the listed variables: true. By the kernel,one run. -/
import Derived.Test.YtbimikjajohflaaGreatDoorRows
import Derived.Test.YtbimikjajohflaaGreatDoorAmLB3
namespace Go.Proofs.YtbimikjajohflaaGreatDoor.compCodes
open Go.Am
set_option maxRecDepth 1000000
noncomputable abbrev gl0:=rowsOf Tryz.prog 254 Tryz.prog.globals.size Rows.compCodesRow.laid
noncomputable abbrev n0:=Tryz.prog.globals.size+Rows.compCodesRow.laid.length
theorem run:retIs (.bool true) (acallT (cProg Tryz.prog) (toldOf gl0 []) 100000 7 [] none (ke gl0 n0))=true:=by decide +kernel
end Go.Proofs.YtbimikjajohflaaGreatDoor.compCodes
