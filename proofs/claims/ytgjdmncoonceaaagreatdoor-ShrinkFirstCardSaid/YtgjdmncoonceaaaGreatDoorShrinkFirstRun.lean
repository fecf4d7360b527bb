/- ShrinkFirst: what alive() answers over the listed variables: true. By the kernel,one run. -/
import Derived.Test.YtgjdmncoonceaaaGreatDoorRows
import Derived.Test.YtgjdmncoonceaaaGreatDoorAmFZc
open Bool renaming true→B4
open Option renaming none→B5
namespace Go.Proofs.YtgjdmncoonceaaaGreatDoor.shrinkFirst
open Go.Am
set_option maxRecDepth 1000000
noncomputable abbrev rZ:=rowsOf Tryz.prog 0 Tryz.prog.globals.size Rows.shrinkFirstRow.laid
noncomputable abbrev n0:=Tryz.prog.globals.size+Rows.shrinkFirstRow.laid.length
theorem run:xO (.bool B4) (jY (aX Tryz.prog) (nj rZ []) 100000 18 [] B5 (vd rZ n0))=true:=by decide +kernel
end Go.Proofs.YtgjdmncoonceaaaGreatDoor.shrinkFirst
