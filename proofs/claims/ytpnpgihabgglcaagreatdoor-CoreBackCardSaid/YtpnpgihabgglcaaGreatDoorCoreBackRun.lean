/- CoreBack: what alive() answers over the listed variables: true. By the kernel,one run. -/
import Derived.Test.YtpnpgihabgglcaaGreatDoorRows
import Derived.Test.YtpnpgihabgglcaaGreatDoorAmBZc
namespace Go.Proofs.YtpnpgihabgglcaaGreatDoor.coreBack
open Go.Am
set_option maxRecDepth 1000000
noncomputable abbrev rB:=rowsOf Tryz.prog 0 Tryz.prog.globals.size Rows.coreBackRow.laid
noncomputable abbrev n0:=Tryz.prog.globals.size+Rows.coreBackRow.laid.length
theorem run:wD (.bool true) (jQ (aV Tryz.prog) (mD rB []) 100000 5 [] none (vc rB n0))=true:=by decide +kernel
end Go.Proofs.YtpnpgihabgglcaaGreatDoor.coreBack
