/- Layer 18's own try, a closed run. -/
import Derived.Test.YtlbjmgpbgkiejaaGreatDoorBeg13
namespace Go.Ab
open Go.Proofs
noncomputable section
set_option maxRecDepth 10000
theorem beg18 (ob0 ob1 : Obj) : closedR2 (evCall PP prims13 4000 80 [] (AH.start2 (PP.globals.size + 1) (begH ob0) (tabH ob1))) = some (true, some (begH ob0), some (tabH ob1)) := by kernel_rfl
theorem beg18_at : PrimAt PP 80 beg2A := closed_at2 prims13_ok seat_mixed seat_ok (by kernel_rfl) globs tabV_rel beg18
def prims18 : PrimF := addP 80 beg2A prims13
theorem prims18_ok : PrimOk PP prims18 := PrimOk.add prims13_ok beg18_at
end
end Go.Ab
