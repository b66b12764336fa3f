/- quant: what codes tell back, as the document says it. -/
import Derived.Test.YtbahknfffhijlaaGreatDoorQuantB
namespace Go.Ab
noncomputable section
open Go.Proofs
set_option maxRecDepth 10000
variable {H H' : AH}

theorem wrap64_8 {x : Int} (h : 0 ≤ x ∧ x ≤ 255) : IntKind.i64.wrap x = x := wrap64_in (by omega) (by omega)
end
end Go.Ab
