/- slices.Insert, said as what the evaluator does. Printed by a program. -/
import Derived.Test.YtlbjmgpbgkiejaaGreatDoorBase
import Derived.Test.YtlbjmgpbgkiejaaGreatDoorMir2
namespace Go.Ab
noncomputable section
open Go.Proofs
set_option maxRecDepth 100000



/-! 249: slices.Insert[[]int,int] -/
abbrev bQ249 (p : List Nat) (k : KP) : KE := codeP PP C0 (subC (bodyC PP 249) p) k
abbrev kQ249 (K : KT) : KP := finP PP (resC PP 249) K
def m_slices_Insert_int_int (K : KT) (x0 x1 x2 : AV) (H : AH) : Prop :=
  outP C0 H (w_slice (.sl 1) false false H x0 (some x1) none none) fun _v1 H1 =>
  outP C0 H1 (w_len PP 54 H1 x2) fun v2 H2 =>
  outP C0 H2 (w_int .eql H2 v2 (.int .i64 0)) fun v3 H3 =>
  condP v3
  (K x0 H3)
  (outP C0 H3 (w_len PP 54 H3 x0) fun v4 H4 =>
  outP C0 H4 (w_int .eql H4 x1 v4) fun v5 H5 =>
  condP v5
  (outP C0 H5 (w_append 3 1 8 H5 x0 x2 none) fun v6 H6 =>
  K v6 H6)
  (outP C0 H5 (w_int .add H5 v4 v2) fun v7 H7 =>
  outP C0 H7 (w_cap PP 54 H7 x0) fun v8 H8 =>
  outP C0 H8 (w_int .gtr H8 v7 v8) fun v9 H9 =>
  condP v9
  (outP C0 H9 (w_slice (.sl 1) true false H9 x0 none (some x1) none) fun v10 H10 =>
  outP C0 H10 (w_int .add H10 v4 v2) fun v11 H11 =>
  outP C0 H11 (w_int .sub H11 v11 x1) fun v12 H12 =>
  outP C0 H12 (w_appendZ 3 1 8 [(.int .i64 0)] H12 v10 v12 none) fun v13 H13 =>
  outP C0 H13 (w_slice (.sl 1) false false H13 v13 (some x1) none none) fun v14 H14 =>
  outP C0 H14 (w_copy PP 54 H14 v14 x2) fun _v15 H15 =>
  outP C0 H15 (w_int .add H15 x1 v2) fun v16 H16 =>
  outP C0 H16 (w_slice (.sl 1) false false H16 v13 (some v16) none none) fun v17 H17 =>
  outP C0 H17 (w_slice (.sl 1) false false H17 x0 (some x1) none none) fun v18 H18 =>
  outP C0 H18 (w_copy PP 54 H18 v17 v18) fun _v19 H19 =>
  K v13 H19)
  (outP C0 H9 (w_int .add H9 v4 v2) fun v20 H20 =>
  outP C0 H20 (w_slice (.sl 1) true false H20 x0 none (some v20) none) fun v21 H21 =>
  outP C0 H21 (w_int .add H21 x1 v2) fun v22 H22 =>
  outP C0 H22 (w_slice (.sl 1) false false H22 v21 (some v22) none none) fun v23 H23 =>
  outP C0 H23 (some (.enter 307 [x2, v23])) fun v24 H24 =>
  outP C0 H24 (w_un .not H24 v24) fun v25 H25 =>
  condP v25
  (outP C0 H25 (w_int .add H25 x1 v2) fun v26 H26 =>
  outP C0 H26 (w_slice (.sl 1) false false H26 v21 (some v26) none none) fun v27 H27 =>
  outP C0 H27 (w_slice (.sl 1) false false H27 v21 (some x1) none none) fun v28 H28 =>
  outP C0 H28 (w_copy PP 54 H28 v27 v28) fun _v29 H29 =>
  outP C0 H29 (w_slice (.sl 1) false false H29 v21 (some x1) none none) fun v30 H30 =>
  outP C0 H30 (w_copy PP 54 H30 v30 x2) fun _v31 H31 =>
  K v21 H31)
  (outP C0 H25 (w_slice (.sl 1) false false H25 v21 (some v4) none none) fun v32 H32 =>
  outP C0 H32 (w_copy PP 54 H32 v32 x2) fun _v33 H33 =>
  outP C0 H33 (w_slice (.sl 1) false false H33 v21 (some x1) none none) fun v34 H34 =>
  outP C0 H34 (some (.enter 308 [v34, v2])) fun _v35 H35 =>
  K v21 H35))))
theorem eQ249_ (K : KT) (a : TE) (H : AH) : bQ249 [] (kQ249 K) a H = m_slices_Insert_int_int K (a 0) (a 1) (a 2) H :=
  by kernel_rfl
theorem m_slices_Insert_int_int_ok (x0 x1 x2 : AV) (H : AH) (K : KT) (h : m_slices_Insert_int_int K x0 x1 x2 H) : C0.call 249 [x0, x1, x2] H K :=
  have h1 : funP PP C0 249 [x0, x1, x2] H K = bQ249 [] (kQ249 K) (argE [x0, x1, x2]) H := by kernel_rfl
  have h2 : m_slices_Insert_int_int K (argE [x0, x1, x2] 0) (argE [x0, x1, x2] 1) (argE [x0, x1, x2] 2) H = m_slices_Insert_int_int K x0 x1 x2 H := by kernel_rfl
  funP_ok (P := PP) (by kernel_rfl) (by kernel_rfl) ((h1.trans ((eQ249_ K (argE [x0, x1, x2]) H).trans h2)).mpr h)

end
end Go.Ab
