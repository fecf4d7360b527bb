/- WorldFault: what alive() answers over the listed variables: true. By the kernel,one run. -/
import Derived.Test.YtlepagkkolnmoaaGreatDoorRows
import Derived.Test.YtlepagkkolnmoaaGreatDoorAmWZc
open Bool renaming true→B4
open Option renaming none→B5
namespace Go.Proofs.YtlepagkkolnmoaaGreatDoor.worldFault
open Go.Am
set_option maxRecDepth 1000000
noncomputable abbrev sn:=rowsOf Tryz.prog 0 Tryz.prog.globals.size Rows.worldFaultRow.laid
noncomputable abbrev n0:=Tryz.prog.globals.size+Rows.worldFaultRow.laid.length
theorem run:yM (.bool B4) (kI (aW Tryz.prog) (mT sn []) 100000 5 [] B5 (vr sn n0))=true:=by decide +kernel
end Go.Proofs.YtlepagkkolnmoaaGreatDoor.worldFault
