/- Layer 23's own try, a closed run. -/
import Derived.Test.YtlbjmgpbgkiejaaGreatDoorBeg18
namespace Go.Ab
open Go.Proofs
noncomputable section
set_option maxRecDepth 10000
theorem beg23 (ob0 ob1 : Obj) : closedR2 (evCall PP prims18 6000 7 [] (AH.start2 (PP.globals.size + 1) (begH ob0) (tabH ob1))) = some (true, some (begH ob0), some (tabH ob1)) := by kernel_rfl
theorem beg23_at : PrimAt PP 7 beg2A := closed_at2 prims18_ok seat_mixed seat_ok (by kernel_rfl) globs tabV_rel beg23
def prims23 : PrimF := addP 7 beg2A prims18
theorem prims23_ok : PrimOk PP prims23 := PrimOk.add prims18_ok beg23_at
end
end Go.Ab
