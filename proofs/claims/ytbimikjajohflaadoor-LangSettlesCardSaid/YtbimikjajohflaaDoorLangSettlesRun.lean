/- LangSettles: what alive() answers over the listed variables: true. By the kernel,one run. -/
import Derived.Test.YtbimikjajohflaaDoorRows
import Derived.Test.YtbimikjajohflaaDoorAmOB3
namespace Go.Proofs.YtbimikjajohflaaDoor.langSettles
open Go.Am
set_option maxRecDepth 1000000
noncomputable abbrev gl0:=rowsOf Tryd.prog 190 Tryd.prog.globals.size Rows.langSettlesRow.laid
noncomputable abbrev n0:=Tryd.prog.globals.size+Rows.langSettlesRow.laid.length
theorem run:retIs (.bool true) (acallT (cProg Tryd.prog) (toldOf gl0 []) 100000 20 [] none (yn gl0 n0))=true:=by decide +kernel
end Go.Proofs.YtbimikjajohflaaDoor.langSettles
