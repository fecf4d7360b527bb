/- CoreBudget: what alive() answers over the listed variables: true. By the kernel,one run. -/
import Derived.Test.YtpnpgihabgglcaaGreatDoorRows
import Derived.Test.YtpnpgihabgglcaaGreatDoorAmUZc
namespace Go.Proofs.YtpnpgihabgglcaaGreatDoor.coreBudget
open Go.Am
set_option maxRecDepth 1000000
noncomputable abbrev ry:=rowsOf Tryz.prog 0 Tryz.prog.globals.size Rows.coreBudgetRow.laid
noncomputable abbrev n0:=Tryz.prog.globals.size+Rows.coreBudgetRow.laid.length
theorem run:wW (.bool true) (jS (aV Tryz.prog) (my ry []) 100000 5 [] none (yx ry n0))=true:=by decide +kernel
end Go.Proofs.YtpnpgihabgglcaaGreatDoor.coreBudget
