/- fieldfarelaw7.NearNone answers true, whatever the world. -/
import Derived.Test.YtoafnnphjbdedaaGreatDoorBeg
namespace Go.Ab
open Go.Proofs
noncomputable section
theorem nn_run (ob' : Obj) : closedR (evCall PP prims7 2000 13 [] (AH.start (PP.globals.size + 1) (begH ob'))) = some (true, some (begH ob')) := by kernel_rfl
end
end Go.Ab
