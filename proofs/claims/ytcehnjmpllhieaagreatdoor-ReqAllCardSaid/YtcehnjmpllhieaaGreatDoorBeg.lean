/- The layers' own tries, closed runs: known. -/
import Derived.Test.YtcehnjmpllhieaaGreatDoorInsP
import Derived.Test.YtcehnjmpllhieaaGreatDoorInsI
import Derived.Test.YtcehnjmpllhieaaGreatDoorSortL
namespace Go.Ab
open Go.Proofs
noncomputable section
noncomputable abbrev begA : List AV → AH → Option (AV × AH) := closedA 272 PP.globals.size 30
noncomputable abbrev begH (ob' : Obj) : ABlk := laidA ob' 272 PP.globals.size 30
noncomputable def prims1 : PrimF := addP 342 insertA <| addP 276 AbI.insertA prims0
theorem prims1_ok : PrimOk PP prims1 := PrimOk.add (PrimOk.add prims0_ok AbI.ins_at) ins_at
theorem beg1 (ob' : Obj) : closedR (evCall PP prims1 2000 404 [] (AH.start (PP.globals.size + 1) (begH ob'))) = some (true, some (begH ob')) := by kernel_rfl
theorem beg1_at : PrimAt PP 404 begA := closed_at prims1_ok seat_mixed seat_ok (by kernel_rfl) beg1
noncomputable def prims2 : PrimF := addP 404 begA prims1
theorem prims2_ok : PrimOk PP prims2 := PrimOk.add prims1_ok beg1_at
theorem beg4 (ob' : Obj) : closedR (evCall PP prims2 2000 400 [] (AH.start (PP.globals.size + 1) (begH ob'))) = some (true, some (begH ob')) := by kernel_rfl
theorem beg4_at : PrimAt PP 400 begA := closed_at prims2_ok seat_mixed seat_ok (by kernel_rfl) beg4
noncomputable def prims4 : PrimF := addP 400 begA prims2
theorem prims4_ok : PrimOk PP prims4 := PrimOk.add prims2_ok beg4_at
theorem beg7 (ob' : Obj) : closedR (evCall PP prims4 2000 369 [] (AH.start (PP.globals.size + 1) (begH ob'))) = some (true, some (begH ob')) := by kernel_rfl
theorem beg7_at : PrimAt PP 369 begA := closed_at prims4_ok seat_mixed seat_ok (by kernel_rfl) beg7
noncomputable def prims6 : PrimF := addP 369 begA prims4
theorem prims6_ok : PrimOk PP prims6 := PrimOk.add prims4_ok beg7_at
noncomputable def prims7 : PrimF := addP 183 sortA prims6
theorem prims7_ok : PrimOk PP prims7 := PrimOk.add prims6_ok seat_sort
noncomputable abbrev CC : CW := WP PP prims7
end
end Go.Ab
