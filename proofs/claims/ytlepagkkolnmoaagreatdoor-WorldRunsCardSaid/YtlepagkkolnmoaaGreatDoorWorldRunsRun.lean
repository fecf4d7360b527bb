/- WorldRuns: what alive() answers over the listed variables: true. By the kernel,one run. -/
import Derived.Test.YtlepagkkolnmoaaGreatDoorRows
import Derived.Test.YtlepagkkolnmoaaGreatDoorAmVZc
open Bool renaming true→B4
open Option renaming none→B5
namespace Go.Proofs.YtlepagkkolnmoaaGreatDoor.worldRuns
open Go.Am
set_option maxRecDepth 1000000
noncomputable abbrev si:=rowsOf Tryz.prog 0 Tryz.prog.globals.size Rows.worldRunsRow.laid
noncomputable abbrev n0:=Tryz.prog.globals.size+Rows.worldRunsRow.laid.length
theorem run:yS (.bool B4) (kI (aY Tryz.prog) (nq si []) 100000 5 [] B5 (vm si n0))=true:=by decide +kernel
end Go.Proofs.YtlepagkkolnmoaaGreatDoor.worldRuns
