/- SoloOn: what alive() answers over the listed variables: true. By the kernel,one run. -/
import Derived.Test.YtbimikjajohflaaGreatDoorRows
import Derived.Test.YtbimikjajohflaaGreatDoorAmRB3
namespace Go.Proofs.YtbimikjajohflaaGreatDoor.soloOn
open Go.Am
set_option maxRecDepth 1000000
noncomputable abbrev gl0:=rowsOf Tryz.prog 254 Tryz.prog.globals.size Rows.soloOnRow.laid
noncomputable abbrev n0:=Tryz.prog.globals.size+Rows.soloOnRow.laid.length
theorem run:retIs (.bool true) (acallT (cProg Tryz.prog) (toldOf gl0 []) 100000 16 [] none (zr gl0 n0))=true:=by decide +kernel
end Go.Proofs.YtbimikjajohflaaGreatDoor.soloOn
