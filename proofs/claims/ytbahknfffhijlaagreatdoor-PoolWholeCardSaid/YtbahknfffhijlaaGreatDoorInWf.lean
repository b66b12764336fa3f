/- Numbers of 64 bits. -/
import Derived.Test.YtbahknfffhijlaaGreatDoorIn
namespace Go.Proofs.YtbahknfffhijlaaGreatDoor
open Go.ChangeShapes Go.WideShapes Go.RowKit Go.Ab Go.Joins Go.Deep
set_option maxRecDepth 100000

theorem wf64 {L : List (Int × Int)} (h : ∀ x ∈ L, (Lit.int .i64 x.2).wf = true) : ∀ x ∈ L, x.2 ≤ 9223372036854775807 := fun x hx => by
  have := h x hx
  simp only [Lit.wf, Bool.and_eq_true, decide_eq_true_eq] at this
  rw [show IntKind.i64.max = 9223372036854775807 from by decide] at this
  exact this.2
theorem wfz {n : Int} (h : (Lit.int .i64 n).wf = true) : -9223372036854775808 ≤ n ∧ n ≤ 9223372036854775807 := by
  simp only [Lit.wf, Bool.and_eq_true, decide_eq_true_eq] at h
  rw [show IntKind.i64.min = -9223372036854775808 from by decide, show IntKind.i64.max = 9223372036854775807 from by decide] at h
  exact h
end Go.Proofs.YtbahknfffhijlaaGreatDoor
