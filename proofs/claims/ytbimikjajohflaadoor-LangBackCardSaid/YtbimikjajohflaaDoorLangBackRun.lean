/- LangBack: what alive() answers over the listed variables: true. By the kernel,one run. -/
import Derived.Test.YtbimikjajohflaaDoorRows
import Derived.Test.YtbimikjajohflaaDoorAmNB3
namespace Go.Proofs.YtbimikjajohflaaDoor.langBack
open Go.Am
set_option maxRecDepth 1000000
noncomputable abbrev gl0:=rowsOf Tryd.prog 190 Tryd.prog.globals.size Rows.langBackRow.laid
noncomputable abbrev n0:=Tryd.prog.globals.size+Rows.langBackRow.laid.length
theorem run:retIs (.bool true) (acallT (cProg Tryd.prog) (toldOf gl0 []) 100000 20 [] none (kw gl0 n0))=true:=by decide +kernel
end Go.Proofs.YtbimikjajohflaaDoor.langBack
