/- The layers' own tries, closed runs: known. -/
import Derived.Test.YtapkhdlohcbcmaaGreatDoorInsP
namespace Go.Ab
open Go.Proofs
noncomputable section
noncomputable abbrev begA : List AV → AH → Option (AV × AH) := closedA 231 PP.globals.size 185
noncomputable abbrev begH (ob' : Obj) : ABlk := laidA ob' 231 PP.globals.size 185
noncomputable def prims1 : PrimF := addP 62 insertA prims0
theorem prims1_ok : PrimOk PP prims1 := PrimOk.add prims0_ok ins_at
theorem beg1 (ob' : Obj) : closedR (evCall PP prims1 2000 117 [] (AH.start (PP.globals.size + 1) (begH ob'))) = some (true, some (begH ob')) := by kernel_rfl
theorem beg1_at : PrimAt PP 117 begA := closed_at prims1_ok seat_mixed seat_ok (by kernel_rfl) beg1
noncomputable def prims2 : PrimF := addP 117 begA prims1
theorem prims2_ok : PrimOk PP prims2 := PrimOk.add prims1_ok beg1_at
theorem beg4 (ob' : Obj) : closedR (evCall PP prims2 2000 67 [] (AH.start (PP.globals.size + 1) (begH ob'))) = some (true, some (begH ob')) := by kernel_rfl
theorem beg4_at : PrimAt PP 67 begA := closed_at prims2_ok seat_mixed seat_ok (by kernel_rfl) beg4
noncomputable def prims4 : PrimF := addP 67 begA prims2
theorem prims4_ok : PrimOk PP prims4 := PrimOk.add prims2_ok beg4_at
theorem beg7 (ob' : Obj) : closedR (evCall PP prims4 2000 10 [] (AH.start (PP.globals.size + 1) (begH ob'))) = some (true, some (begH ob')) := by kernel_rfl
theorem beg7_at : PrimAt PP 10 begA := closed_at prims4_ok seat_mixed seat_ok (by kernel_rfl) beg7
noncomputable def prims6 : PrimF := addP 10 begA prims4
theorem prims6_ok : PrimOk PP prims6 := PrimOk.add prims4_ok beg7_at
noncomputable abbrev prims7 : PrimF := prims6
theorem prims7_ok : PrimOk PP prims7 := prims6_ok
noncomputable abbrev CC : CW := WP PP prims7
end
end Go.Ab
