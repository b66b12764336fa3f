/- What functions do, said as what the evaluator does. Printed by a program. -/
import Derived.Test.YtcehnjmpllhieaaGreatDoorPrim25
import Derived.Test.YtcehnjmpllhieaaGreatDoorMir2
namespace Go.Ab
noncomputable section
open Go.Proofs
set_option maxRecDepth 100000



/-! 4: fieldfare/fieldfarelaw23.ReqUnlike -/
abbrev bQ4 (p : List Nat) (k : KP) : KE := codeP PP C25 (subC (bodyC PP 4) p) k
abbrev kQ4 (K : KT) : KP := finP PP (resC PP 4) K
def m_fieldfarelaw23_ReqUnlike (K : KT) (x0 x1 : AV) (H : AH) : Prop :=
  outP C25 H (w_box 26 H x0 none) fun v1 H1 =>
  outP C25 H1 (w_box 26 H1 x1 none) fun v2 H2 =>
  outP C25 H2 (some (.enter 7 [])) fun v3 H3 =>
  outP C25 H3 (w_un .not H3 v3) fun v4 H4 =>
  condP v4
  (K (.bool false) H4)
  (outP C25 H4 (w_load (some 11) H4 v1) fun v5 H5 =>
  outP C25 H5 (some (.enter 8 [v5])) fun v6 H6 =>
  outP C25 H6 (w_extract 0 H6 v6) fun v7 H7 =>
  outP C25 H7 (w_extract 1 H7 v6) fun v8 H8 =>
  outP C25 H8 (w_load (some 11) H8 v2) fun v9 H9 =>
  outP C25 H9 (some (.enter 8 [v9])) fun v10 H10 =>
  outP C25 H10 (w_extract 0 H10 v10) fun v11 H11 =>
  outP C25 H11 (w_extract 1 H11 v10) fun v12 H12 =>
  outP C25 H12 (w_eq PP .neq 30 false true H12 v8 .nilIface) fun v13 H13 =>
  guardP (boolIs false v13) H13 (outP C25 H13 (some (.val v12 H13))) fun v14 H14 =>
  guardP (boolIs false v13) H14 (outP C25 H14 (w_eq PP .neq 30 false true H14 v14 .nilIface)) fun v15 H15 =>
  outP C25 H15 (w_pick H15 v13 (.bool true) v15) fun v16 H16 =>
  condP v16
  (outP C25 H16 (w_eq PP .neq 30 false true H16 v8 .nilIface) fun v17 H17 =>
  outP C25 H17 (w_load (some 11) H17 v1) fun v18 H18 =>
  outP C25 H18 (some (.enter 9 [v18])) fun v19 H19 =>
  outP C25 H19 (w_un .not H19 v19) fun v20 H20 =>
  outP C25 H20 (w_eq PP .eql 4 false false H20 v17 v20) fun v21 H21 =>
  guardP (boolIs true v21) H21 (outP C25 H21 (some (.val v12 H21))) fun v22 H22 =>
  guardP (boolIs true v21) H22 (outP C25 H22 (w_eq PP .neq 30 false true H22 v22 .nilIface)) fun v23 H23 =>
  guardP (boolIs true v21) H23 (outP C25 H23 (w_load (some 11) H23 v2)) fun v24 H24 =>
  guardP (boolIs true v21) H24 (outP C25 H24 (some (.enter 9 [v24]))) fun v25 H25 =>
  guardP (boolIs true v21) H25 (outP C25 H25 (w_un .not H25 v25)) fun v26 H26 =>
  guardP (boolIs true v21) H26 (outP C25 H26 (w_eq PP .eql 4 false false H26 v23 v26)) fun v27 H27 =>
  outP C25 H27 (w_pick H27 v21 v27 (.bool false)) fun v28 H28 =>
  K v28 H28)
  (outP C25 H16 (w_load (some 11) H16 v1) fun v29 H29 =>
  outP C25 H29 (w_load (some 11) H29 v2) fun v30 H30 =>
  outP C25 H30 (w_conv .text H30 v7 none) fun v31 H31 =>
  outP C25 H31 (w_conv .text H31 v11 none) fun v32 H32 =>
  outP C25 H32 (w_str .eql H32 v31 v32) fun v33 H33 =>
  outP C25 H33 (some (.enter 14 [v29, v30])) fun v34 H34 =>
  ckP (reC true (w_conv .text H34 v7 none) v31) <|
  ckP (reC true (w_conv .text H34 v11 none) v32) <|
  outP C25 H34 (w_eq PP .eql 4 false false H34 v34 v33) fun v35 H35 =>
  K v35 H35))
theorem eQ4_ (K : KT) (a : TE) (H : AH) : bQ4 [] (kQ4 K) a H = m_fieldfarelaw23_ReqUnlike K (a 0) (a 1) H :=
  by kernel_rfl
theorem m_fieldfarelaw23_ReqUnlike_ok (x0 x1 : AV) (H : AH) (K : KT) (h : m_fieldfarelaw23_ReqUnlike K x0 x1 H) : C25.call 4 [x0, x1] H K :=
  have h1 : funP PP C25 4 [x0, x1] H K = bQ4 [] (kQ4 K) (argE [x0, x1]) H := by kernel_rfl
  have h2 : m_fieldfarelaw23_ReqUnlike K (argE [x0, x1] 0) (argE [x0, x1] 1) H = m_fieldfarelaw23_ReqUnlike K x0 x1 H := by kernel_rfl
  funP_ok (P := PP) (by kernel_rfl) (by kernel_rfl) ((h1.trans ((eQ4_ K (argE [x0, x1]) H).trans h2)).mpr h)

end
end Go.Ab
