/- ShrinkNothing: what alive() answers over the listed variables: true. By the kernel,one run. -/
import Derived.Test.YtgjdmncoonceaaaGreatDoorRows
import Derived.Test.YtgjdmncoonceaaaGreatDoorAmNZc
open Bool renaming true→B4
open Option renaming none→B5
namespace Go.Proofs.YtgjdmncoonceaaaGreatDoor.shrinkNothing
open Go.Am
set_option maxRecDepth 1000000
noncomputable abbrev sy:=rowsOf Tryz.prog 0 Tryz.prog.globals.size Rows.shrinkNothingRow.laid
noncomputable abbrev n0:=Tryz.prog.globals.size+Rows.shrinkNothingRow.laid.length
theorem run:yF (.bool B4) (kI (aX Tryz.prog) (mW sy []) 100000 18 [] B5 (vh sy n0))=true:=by decide +kernel
end Go.Proofs.YtgjdmncoonceaaaGreatDoor.shrinkNothing
