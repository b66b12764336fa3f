/- What functions do, said as what the evaluator does. Printed by a program. -/
import Derived.Test.YtapkhdlohcbcmaaGreatDoorBeg
import Derived.Test.YtapkhdlohcbcmaaGreatDoorEv3
namespace Go.Ab
noncomputable section
open Go.Proofs
set_option maxRecDepth 100000



/-! 8: fieldfare/fieldfarelaw7.VectAll -/
abbrev m_fieldfarelaw7_VectAll_K (K : AV → AH → Prop) : KP := finP PP (resC PP 8) K
def m_fieldfarelaw7_VectAll (K : AV → AH → Prop) (x0 x1 x2 x3 : AV) (H : AH) : Prop :=
  outP CC H (some (.enter 10 [])) fun v1 H1 =>
  outP CC H1 (w_un .not H1 v1) fun v2 H2 =>
  condP v2
  (K (.bool false) H2)
  (outP CC H2 (w_len PP 25 H2 x0) fun v3 H3 =>
  outP CC H3 (w_min2 H3 v3 (.int .i64 12)) fun v4 H4 =>
  outP CC H4 (w_slice (.sl 1) true false H4 x0 none (some v4) none) fun v5 H5 =>
  outP CC H5 (w_len PP 25 H5 x1) fun v6 H6 =>
  outP CC H6 (w_min2 H6 v6 (.int .i64 12)) fun v7 H7 =>
  outP CC H7 (w_slice (.sl 1) true false H7 x1 none (some v7) none) fun v8 H8 =>
  outP CC H8 (w_len PP 29 H8 x3) fun v9 H9 =>
  outP CC H9 (w_min2 H9 v9 (.int .i64 30)) fun v10 H10 =>
  outP CC H10 (w_slice (.sl 1) true false H10 x3 none (some v10) none) fun v11 H11 =>
  outP CC H11 (some (.enter 12 [v5, x2])) fun v12 H12 =>
  outP CC H12 (some (.enter 27 [v5, x2])) fun v13 H13 =>
  outP CC H13 (w_eq PP .neq 4 false false H13 v12 v13) fun v14 H14 =>
  guardP (boolIs false v14) H14 (outP CC H14 (some (.val v5 H14))) fun v15 H15 =>
  guardP (boolIs false v14) H15 (outP CC H15 (some (.val v8 H15))) fun v16 H16 =>
  guardP (boolIs false v14) H16 (outP CC H16 (some (.enter 17 [v15, v16]))) fun v17 H17 =>
  guardP (boolIs false v14) H17 (outP CC H17 (some (.val v5 H17))) fun v18 H18 =>
  guardP (boolIs false v14) H18 (outP CC H18 (some (.val v8 H18))) fun v19 H19 =>
  guardP (boolIs false v14) H19 (outP CC H19 (some (.enter 28 [v18, v19]))) fun v20 H20 =>
  guardP (boolIs false v14) H20 (outP CC H20 (w_eq PP .neq 4 false false H20 v17 v20)) fun v21 H21 =>
  outP CC H21 (w_pick H21 v14 (.bool true) v21) fun v22 H22 =>
  guardP (boolIs false v22) H22 (outP CC H22 (some (.val v5 H22))) fun v23 H23 =>
  guardP (boolIs false v22) H23 (outP CC H23 (some (.val v5 H23))) fun v24 H24 =>
  guardP (boolIs false v22) H24 (outP CC H24 (some (.enter 29 [v24]))) fun v25 H25 =>
  guardP (boolIs false v22) H25 (outP CC H25 (some (.enter 17 [v23, v25]))) fun v26 H26 =>
  guardP (boolIs false v22) H26 (outP CC H26 (w_un .not H26 v26)) fun v27 H27 =>
  outP CC H27 (w_pick H27 v22 (.bool true) v27) fun v28 H28 =>
  condP v28
  (K (.bool false) H28)
  (outP CC H28 (w_alloc 31 [(.slice none 0 0 true)] H28 none) fun v29 H29 =>
  outP CC H29 (some (.enter 13 [v29, v5])) fun _v30 H30 =>
  outP CC H30 (some (.enter 16 [v29])) fun v31 H31 =>
  outP CC H31 (w_conv .text H31 v31 none) fun v32 H32 =>
  outP CC H32 (some (.enter 30 [v5])) fun v33 H33 =>
  ckP (reC true (w_conv .text H33 v31 none) v32) <|
  outP CC H33 (w_conv .text H33 v33 none) fun v34 H34 =>
  outP CC H34 (w_str .neq H34 v32 v34) fun v35 H35 =>
  condP v35
  (K (.bool false) H35)
  (outP CC H35 (some (.enter 16 [v29])) fun v36 H36 =>
  outP CC H36 (some (.enter 15 [v36])) fun v37 H37 =>
  outP CC H37 (some (.enter 18 [v37])) fun v38 H38 =>
  outP CC H38 (w_len PP 25 H38 v5) fun v39 H39 =>
  outP CC H39 (w_int .gtr H39 v39 (.int .i64 8)) fun v40 H40 =>
  condP v40
  (outP CC H40 (w_len PP 25 H40 v38) fun v41 H41 =>
  outP CC H41 (w_int .eql H41 v41 (.int .i64 0)) fun v42 H42 =>
  K v42 H42)
  (outP CC H40 (some (.enter 17 [v5, v38])) fun v43 H43 =>
  outP CC H43 (w_un .not H43 v43) fun v44 H44 =>
  guardP (boolIs false v44) H44 (outP CC H44 (some (.val v37 H44))) fun v45 H45 =>
  guardP (boolIs false v44) H45 (outP CC H45 (some (.enter 20 [v45]))) fun v46 H46 =>
  guardP (boolIs false v44) H46 (outP CC H46 (w_int .neq H46 v46 (.int .i64 0))) fun v47 H47 =>
  outP CC H47 (w_pick H47 v44 (.bool true) v47) fun v48 H48 =>
  condP v48
  (K (.bool false) H48)
  (outP CC H48 (some (.enter 15 [v11])) fun v49 H49 =>
  outP CC H49 (some (.enter 18 [v49])) fun v50 H50 =>
  outP CC H50 (some (.enter 31 [v49])) fun v51 H51 =>
  outP CC H51 (w_int .eql H51 v51 (.int .i64 0)) fun v52 H52 =>
  guardP (boolIs true v52) H52 (outP CC H52 (some (.val v50 H52))) fun v53 H53 =>
  guardP (boolIs true v52) H53 (outP CC H53 (w_len PP 25 H53 v53)) fun v54 H54 =>
  guardP (boolIs true v52) H54 (outP CC H54 (w_int .gtr H54 v54 (.int .i64 0))) fun v55 H55 =>
  outP CC H55 (w_pick H55 v52 v55 (.bool false)) fun v56 H56 =>
  condP v56
  (outP CC H56 (some (.enter 30 [v50])) fun v57 H57 =>
  outP CC H57 (w_len PP 25 H57 v50) fun v58 H58 =>
  outP CC H58 (w_int .leq H58 v58 (.int .i64 8)) fun v59 H59 =>
  guardP (boolIs true v59) H59 (outP CC H59 (some (.val v57 H59))) fun v60 H60 =>
  guardP (boolIs true v59) H60 (outP CC H60 (w_len PP 29 H60 v60)) fun v61 H61 =>
  guardP (boolIs true v59) H61 (outP CC H61 (some (.val v11 H61))) fun v62 H62 =>
  guardP (boolIs true v59) H62 (outP CC H62 (w_len PP 29 H62 v62)) fun v63 H63 =>
  guardP (boolIs true v59) H63 (outP CC H63 (w_int .leq H63 v61 v63)) fun v64 H64 =>
  outP CC H64 (w_pick H64 v59 v64 (.bool false)) fun v65 H65 =>
  guardP (boolIs true v65) H65 (outP CC H65 (some (.val v57 H65))) fun v66 H66 =>
  guardP (boolIs true v65) H66 (outP CC H66 (w_conv .text H66 v66 none)) fun v67 H67 =>
  guardP (boolIs true v65) H67 (outP CC H67 (some (.val v11 H67))) fun v68 H68 =>
  guardP (boolIs true v65) H68 (outP CC H68 (some (.val v57 H68))) fun v69 H69 =>
  guardP (boolIs true v65) H69 (outP CC H69 (w_len PP 29 H69 v69)) fun v70 H70 =>
  guardP (boolIs true v65) H70 (outP CC H70 (w_slice (.sl 1) true false H70 v68 none (some v70) none)) fun v71 H71 =>
  guardP (boolIs true v65) H71 (outP CC H71 (w_conv .text H71 v71 none)) fun v72 H72 =>
  guardP (boolIs true v65) H72 (outP CC H72 (w_str .eql H72 v67 v72)) fun v73 H73 =>
  outP CC H73 (w_pick H73 v65 v73 (.bool false)) fun v74 H74 =>
  K v74 H74)
  (outP CC H56 (w_len PP 25 H56 v50) fun v75 H75 =>
  outP CC H75 (w_int .eql H75 v75 (.int .i64 0)) fun v76 H76 =>
  K v76 H76))))))
theorem m_fieldfarelaw7_VectAll_eq (K : AV → AH → Prop) (a : TE) (H : AH) : codeP PP CC (subC (bodyC PP 8) []) (m_fieldfarelaw7_VectAll_K K) a H = m_fieldfarelaw7_VectAll K (a 0) (a 1) (a 2) (a 3) H :=
  by kernel_rfl
theorem m_fieldfarelaw7_VectAll_ok (x0 x1 x2 x3 : AV) (H : AH) (K : AV → AH → Prop) (h : m_fieldfarelaw7_VectAll K x0 x1 x2 x3 H) : CC.call 8 [x0, x1, x2, x3] H K :=
  have h1 : funP PP CC 8 [x0, x1, x2, x3] H K = codeP PP CC (subC (bodyC PP 8) []) (m_fieldfarelaw7_VectAll_K K) (argE [x0, x1, x2, x3]) H := by kernel_rfl
  have h2 : m_fieldfarelaw7_VectAll K (argE [x0, x1, x2, x3] 0) (argE [x0, x1, x2, x3] 1) (argE [x0, x1, x2, x3] 2) (argE [x0, x1, x2, x3] 3) H = m_fieldfarelaw7_VectAll K x0 x1 x2 x3 H := by kernel_rfl
  funP_ok (P := PP) (by kernel_rfl) (by kernel_rfl) ((h1.trans ((m_fieldfarelaw7_VectAll_eq K (argE [x0, x1, x2, x3]) H).trans h2)).mpr h)

end
end Go.Ab
