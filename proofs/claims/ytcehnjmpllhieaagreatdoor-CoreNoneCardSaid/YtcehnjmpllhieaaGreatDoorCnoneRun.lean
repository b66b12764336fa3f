/- fieldfarelaw23.CoreNone, a closed run. -/
import Derived.Test.YtcehnjmpllhieaaGreatDoorBegT
namespace Go.Ab
open Go.Proofs
noncomputable section
set_option maxRecDepth 10000
theorem cnone_run (ob0 ob1 : Obj) : closedR2 (evCall PP prims23 6000 6 [] (AH.start2 (PP.globals.size + 1) (begH ob0) (tabH ob1))) = some (true, some (begH ob0), some (tabH ob1)) := by kernel_rfl
theorem cnone_at : PrimAt PP 6 beg2A := closed_at2 prims23_ok seat_mixed seat_ok (by kernel_rfl) globs tabV_rel cnone_run
end
end Go.Ab
