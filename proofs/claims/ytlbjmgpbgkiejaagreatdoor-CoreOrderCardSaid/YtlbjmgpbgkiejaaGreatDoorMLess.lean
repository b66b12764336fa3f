/- What functions do, said as what the evaluator does. Printed by a program. -/
import Derived.Test.YtlbjmgpbgkiejaaGreatDoorBeg
import Derived.Test.YtlbjmgpbgkiejaaGreatDoorMir2
namespace Go.Ab
noncomputable section
open Go.Proofs
set_option maxRecDepth 100000



/-! 261: fieldfare/metric.Less -/
abbrev bQ261 (p : List Nat) (k : KP) : KE := codeP PP CC (subC (bodyC PP 261) p) k
abbrev kQ261 (K : KT) : KP := finP PP (resC PP 261) K
def m_metric_Less (K : KT) (x0 x1 : AV) (H : AH) : Prop :=
  outP CC H (w_box 74 H x0 none) fun v1 H1 =>
  outP CC H1 (w_box 74 H1 x1 none) fun v2 H2 =>
  outP CC H2 (w_fieldAddr 1 H2 v1) fun v3 H3 =>
  outP CC H3 (w_load none H3 v3) fun v4 H4 =>
  outP CC H4 (w_fieldAddr 1 H4 v2) fun v5 H5 =>
  outP CC H5 (w_load none H5 v5) fun v6 H6 =>
  outP CC H6 (w_int .neq H6 v4 v6) fun v7 H7 =>
  condP v7
  (outP CC H7 (w_fieldAddr 1 H7 v1) fun v8 H8 =>
  outP CC H8 (w_load none H8 v8) fun v9 H9 =>
  outP CC H9 (w_fieldAddr 1 H9 v2) fun v10 H10 =>
  outP CC H10 (w_load none H10 v10) fun v11 H11 =>
  outP CC H11 (w_int .lss H11 v9 v11) fun v12 H12 =>
  K v12 H12)
  (outP CC H7 (w_fieldAddr 0 H7 v1) fun v13 H13 =>
  outP CC H13 (w_load none H13 v13) fun v14 H14 =>
  outP CC H14 (w_fieldAddr 0 H14 v2) fun v15 H15 =>
  outP CC H15 (w_load none H15 v15) fun v16 H16 =>
  outP CC H16 (w_int .lss H16 v14 v16) fun v17 H17 =>
  K v17 H17)
theorem eQ261_ (K : KT) (a : TE) (H : AH) : bQ261 [] (kQ261 K) a H = m_metric_Less K (a 0) (a 1) H :=
  by kernel_rfl
theorem m_metric_Less_ok (x0 x1 : AV) (H : AH) (K : KT) (h : m_metric_Less K x0 x1 H) : CC.call 261 [x0, x1] H K :=
  have h1 : funP PP CC 261 [x0, x1] H K = bQ261 [] (kQ261 K) (argE [x0, x1]) H := by kernel_rfl
  have h2 : m_metric_Less K (argE [x0, x1] 0) (argE [x0, x1] 1) H = m_metric_Less K x0 x1 H := by kernel_rfl
  funP_ok (P := PP) (by kernel_rfl) (by kernel_rfl) ((h1.trans ((eQ261_ K (argE [x0, x1]) H).trans h2)).mpr h)

end
end Go.Ab
