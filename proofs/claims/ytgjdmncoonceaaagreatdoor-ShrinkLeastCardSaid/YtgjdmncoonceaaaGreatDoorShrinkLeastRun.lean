/- ShrinkLeast: what alive() answers over the listed variables: true. By the kernel,one run. -/
import Derived.Test.YtgjdmncoonceaaaGreatDoorRows
import Derived.Test.YtgjdmncoonceaaaGreatDoorAmLZc
open Bool renaming true→B4
open Option renaming none→B5
namespace Go.Proofs.YtgjdmncoonceaaaGreatDoor.shrinkLeast
open Go.Am
set_option maxRecDepth 1000000
noncomputable abbrev si:=rowsOf Tryz.prog 0 Tryz.prog.globals.size Rows.shrinkLeastRow.laid
noncomputable abbrev n0:=Tryz.prog.globals.size+Rows.shrinkLeastRow.laid.length
theorem run:yP (.bool B4) (kN (aX Tryz.prog) (mX si []) 100000 18 [] B5 (vi si n0))=true:=by decide +kernel
end Go.Proofs.YtgjdmncoonceaaaGreatDoor.shrinkLeast
