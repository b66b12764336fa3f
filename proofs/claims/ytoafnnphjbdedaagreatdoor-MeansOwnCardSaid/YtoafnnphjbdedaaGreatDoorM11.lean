/- What functions do, said as what the evaluator does. Printed by a program. -/
import Derived.Test.YtoafnnphjbdedaaGreatDoorBeg
import Derived.Test.YtoafnnphjbdedaaGreatDoorEv3
namespace Go.Ab
noncomputable section
open Go.Proofs
set_option maxRecDepth 100000



/-! 11: fieldfare/fieldfarelaw7.QuantAny -/
abbrev m_fieldfarelaw7_QuantAny_K (K : AV → AH → Prop) : KP := finP PP (resC PP 11) K
def m_fieldfarelaw7_QuantAny (K : AV → AH → Prop) (x0 x1 x2 x3 : AV) (H : AH) : Prop :=
  outP CC H (some (.enter 14 [])) fun v1 H1 =>
  outP CC H1 (w_un .not H1 v1) fun v2 H2 =>
  condP v2
  (K (.bool false) H2)
  (outP CC H2 (w_len PP 27 H2 x0) fun v3 H3 =>
  outP CC H3 (w_min2 H3 v3 (.int .i64 9)) fun v4 H4 =>
  outP CC H4 (w_slice (.sl 1) true false H4 x0 none (some v4) none) fun v5 H5 =>
  outP CC H5 (w_len PP 27 H5 x1) fun v6 H6 =>
  outP CC H6 (w_min2 H6 v6 (.int .i64 9)) fun v7 H7 =>
  outP CC H7 (w_slice (.sl 1) true false H7 x1 none (some v7) none) fun v8 H8 =>
  outP CC H8 (w_len PP 28 H8 x2) fun v9 H9 =>
  outP CC H9 (w_min2 H9 v9 (.int .i64 9)) fun v10 H10 =>
  outP CC H10 (w_slice (.sl 1) true false H10 x2 none (some v10) none) fun v11 H11 =>
  outP CC H11 (w_len PP 72 H11 x3) fun v12 H12 =>
  outP CC H12 (w_min2 H12 v12 (.int .i64 9)) fun v13 H13 =>
  outP CC H13 (w_slice (.sl 1) true false H13 x3 none (some v13) none) fun v14 H14 =>
  outP CC H14 (w_build PP 65 H14 [(0, v5), (1, v8)]) fun v15 H15 =>
  outP CC H15 (w_build PP 67 H15 [(0, v5), (1, v8)]) fun v16 H16 =>
  outP CC H16 (w_alloc 65 [(.slice none 0 0 true), (.slice none 0 0 true)] H16 none) fun v17 H17 =>
  outP CC H17 (w_alloc 67 [(.slice none 0 0 true), (.slice none 0 0 true)] H17 none) fun v18 H18 =>
  outP CC H18 (w_store 2 H18 v17 v15) fun _v19 H19 =>
  outP CC H19 (w_store 2 H19 v18 v16) fun _v20 H20 =>
  outP CC H20 (w_load (some 2) H20 v17) fun v21 H21 =>
  outP CC H21 (w_load (some 2) H21 v17) fun v22 H22 =>
  outP CC H22 (some (.enter 39 [v21, v11])) fun v23 H23 =>
  ckP (reC true (w_load (some 2) H23 v17) v22) <|
  outP CC H23 (some (.enter 41 [v22, v14])) fun v24 H24 =>
  outP CC H24 (w_conv .text H24 v23 none) fun v25 H25 =>
  outP CC H25 (w_load (some 2) H25 v18) fun v26 H26 =>
  outP CC H26 (some (.enter 40 [v26, v11])) fun v27 H27 =>
  ckP (reC true (w_conv .text H27 v23 none) v25) <|
  outP CC H27 (w_conv .text H27 v27 none) fun v28 H28 =>
  outP CC H28 (w_str .eql H28 v25 v28) fun v29 H29 =>
  guardP (boolIs true v29) H29 (outP CC H29 (some (.val v24 H29))) fun v30 H30 =>
  guardP (boolIs true v29) H30 (outP CC H30 (w_load (some 2) H30 v18)) fun v31 H31 =>
  guardP (boolIs true v29) H31 (outP CC H31 (some (.val v14 H31))) fun v32 H32 =>
  guardP (boolIs true v29) H32 (outP CC H32 (some (.enter 42 [v31, v32]))) fun v33 H33 =>
  guardP (boolIs true v29) H33 (outP CC H33 (some (.enter 19 [v30, v33]))) fun v34 H34 =>
  outP CC H34 (w_pick H34 v29 v34 (.bool false)) fun v35 H35 =>
  guardP (boolIs true v35) H35 (outP CC H35 (w_load (some 2) H35 v17)) fun v36 H36 =>
  guardP (boolIs true v35) H36 (outP CC H36 (w_load (some 2) H36 v18)) fun v37 H37 =>
  guardP (boolIs true v35) H37 (outP CC H37 (some (.enter 37 [v36]))) fun v38 H38 =>
  ckP (reC (boolIs true v35) (w_load (some 2) H38 v18) v37) <|
  guardP (boolIs true v35) H38 (outP CC H38 (some (.enter 38 [v37]))) fun v39 H39 =>
  guardP (boolIs true v35) H39 (outP CC H39 (w_int .eql H39 v38 v39)) fun v40 H40 =>
  outP CC H40 (w_pick H40 v35 v40 (.bool false)) fun v41 H41 =>
  K v41 H41)
theorem m_fieldfarelaw7_QuantAny_eq (K : AV → AH → Prop) (a : TE) (H : AH) : codeP PP CC (subC (bodyC PP 11) []) (m_fieldfarelaw7_QuantAny_K K) a H = m_fieldfarelaw7_QuantAny K (a 0) (a 1) (a 2) (a 3) H :=
  by kernel_rfl
theorem m_fieldfarelaw7_QuantAny_ok (x0 x1 x2 x3 : AV) (H : AH) (K : AV → AH → Prop) (h : m_fieldfarelaw7_QuantAny K x0 x1 x2 x3 H) : CC.call 11 [x0, x1, x2, x3] H K :=
  have h1 : funP PP CC 11 [x0, x1, x2, x3] H K = codeP PP CC (subC (bodyC PP 11) []) (m_fieldfarelaw7_QuantAny_K K) (argE [x0, x1, x2, x3]) H := by kernel_rfl
  have h2 : m_fieldfarelaw7_QuantAny K (argE [x0, x1, x2, x3] 0) (argE [x0, x1, x2, x3] 1) (argE [x0, x1, x2, x3] 2) (argE [x0, x1, x2, x3] 3) H = m_fieldfarelaw7_QuantAny K x0 x1 x2 x3 H := by kernel_rfl
  funP_ok (P := PP) (by kernel_rfl) (by kernel_rfl) ((h1.trans ((m_fieldfarelaw7_QuantAny_eq K (argE [x0, x1, x2, x3]) H).trans h2)).mpr h)

end
end Go.Ab
