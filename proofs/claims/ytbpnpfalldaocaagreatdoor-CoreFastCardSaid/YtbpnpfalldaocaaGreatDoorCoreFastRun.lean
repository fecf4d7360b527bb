/- CoreFast: what alive() answers over the listed variables: true. By the kernel,one run. -/
import Derived.Test.YtbpnpfalldaocaaGreatDoorRows
import Derived.Test.YtbpnpfalldaocaaGreatDoorAmCZc
open Bool renaming true→B4
open Option renaming none→B5
namespace Go.Proofs.YtbpnpfalldaocaaGreatDoor.coreFast
open Go.Am
set_option maxRecDepth 1000000
noncomputable abbrev pR:=rowsOf Tryz.prog 0 Tryz.prog.globals.size Rows.coreFastRow.laid
noncomputable abbrev n0:=Tryz.prog.globals.size+Rows.coreFastRow.laid.length
theorem run:ud (.bool B4) (iZ (aU Tryz.prog) (lM pR []) 100000 6 [] B5 (kn pR n0))=true:=by decide +kernel
end Go.Proofs.YtbpnpfalldaocaaGreatDoor.coreFast
