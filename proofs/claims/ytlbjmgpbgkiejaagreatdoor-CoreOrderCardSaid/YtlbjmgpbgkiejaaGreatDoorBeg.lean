/- The layers' own tries, closed runs: known. -/
import Derived.Test.YtlbjmgpbgkiejaaGreatDoorInsP
import Derived.Test.YtlbjmgpbgkiejaaGreatDoorInsI
import Derived.Test.YtlbjmgpbgkiejaaGreatDoorSortL
namespace Go.Ab
open Go.Proofs
noncomputable section
noncomputable abbrev begA : List AV → AH → Option (AV × AH) := closedA 302 PP.globals.size 36
noncomputable abbrev begH (ob' : Obj) : ABlk := laidA ob' 302 PP.globals.size 36
noncomputable def prims1 : PrimF := addP 303 insertA <| addP 249 AbI.insertA prims0
theorem prims1_ok : PrimOk PP prims1 := PrimOk.add (PrimOk.add prims0_ok AbI.ins_at) ins_at
theorem beg1 (ob' : Obj) : closedR (evCall PP prims1 2000 395 [] (AH.start (PP.globals.size + 1) (begH ob'))) = some (true, some (begH ob')) := by kernel_rfl
theorem beg1_at : PrimAt PP 395 begA := closed_at prims1_ok seat_mixed seat_ok (by kernel_rfl) beg1
noncomputable def prims2 : PrimF := addP 395 begA prims1
theorem prims2_ok : PrimOk PP prims2 := PrimOk.add prims1_ok beg1_at
theorem beg4 (ob' : Obj) : closedR (evCall PP prims2 2000 388 [] (AH.start (PP.globals.size + 1) (begH ob'))) = some (true, some (begH ob')) := by kernel_rfl
theorem beg4_at : PrimAt PP 388 begA := closed_at prims2_ok seat_mixed seat_ok (by kernel_rfl) beg4
noncomputable def prims4 : PrimF := addP 388 begA prims2
theorem prims4_ok : PrimOk PP prims4 := PrimOk.add prims2_ok beg4_at
theorem beg7 (ob' : Obj) : closedR (evCall PP prims4 2000 334 [] (AH.start (PP.globals.size + 1) (begH ob'))) = some (true, some (begH ob')) := by kernel_rfl
theorem beg7_at : PrimAt PP 334 begA := closed_at prims4_ok seat_mixed seat_ok (by kernel_rfl) beg7
noncomputable def prims6 : PrimF := addP 334 begA prims4
theorem prims6_ok : PrimOk PP prims6 := PrimOk.add prims4_ok beg7_at
noncomputable def prims7 : PrimF := addP 203 sortA prims6
theorem prims7_ok : PrimOk PP prims7 := PrimOk.add prims6_ok seat_sort
noncomputable abbrev CC : CW := WP PP prims7
end
end Go.Ab
