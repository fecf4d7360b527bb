/- MeanLists: what alive() answers over the listed variables: true. By the kernel,one run. -/
import Derived.Test.YtbimikjajohflaaDoorRows
import Derived.Test.YtbimikjajohflaaDoorAmHB3
namespace Go.Proofs.YtbimikjajohflaaDoor.meanLists
open Go.Am
set_option maxRecDepth 1000000
noncomputable abbrev gl0:=rowsOf Tryd.prog 190 Tryd.prog.globals.size Rows.meanListsRow.laid
noncomputable abbrev n0:=Tryd.prog.globals.size + Rows.meanListsRow.laid.length
theorem run:retIs (.bool true) (acallT (cProg Tryd.prog) (toldOf gl0 []) 100000 30 [] none (zh gl0 n0)) = true:=by decide +kernel
end Go.Proofs.YtbimikjajohflaaDoor.meanLists
