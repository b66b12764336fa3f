/- What functions do, said as what the evaluator does. Printed by a program. -/
import Derived.Test.YtapkhdlohcbcmaaGreatDoorBeg
import Derived.Test.YtapkhdlohcbcmaaGreatDoorEv3
namespace Go.Ab
noncomputable section
open Go.Proofs
set_option maxRecDepth 100000



/-! 9: fieldfare/fieldfarelaw7.MetricAll -/
abbrev m_fieldfarelaw7_MetricAll_K (K : AV → AH → Prop) : KP := finP PP (resC PP 9) K
def m_fieldfarelaw7_MetricAll (K : AV → AH → Prop) (x0 x1 x2 x3 x4 : AV) (H : AH) : Prop :=
  outP CC H (w_box 60 H x3 none) fun v1 H1 =>
  outP CC H1 (w_box 60 H1 x4 none) fun v2 H2 =>
  outP CC H2 (some (.enter 10 [])) fun v3 H3 =>
  outP CC H3 (w_un .not H3 v3) fun v4 H4 =>
  condP v4
  (K (.bool false) H4)
  (outP CC H4 (w_len PP 25 H4 x1) fun v5 H5 =>
  outP CC H5 (w_min2 H5 v5 (.int .i64 8)) fun v6 H6 =>
  outP CC H6 (some (.enter 24 [x1, v6])) fun v7 H7 =>
  outP CC H7 (w_len PP 25 H7 x2) fun v8 H8 =>
  outP CC H8 (w_min2 H8 v8 (.int .i64 8)) fun v9 H9 =>
  outP CC H9 (some (.enter 24 [x2, v9])) fun v10 H10 =>
  outP CC H10 (some (.enter 21 [x0, v7, v10])) fun v11 H11 =>
  outP CC H11 (some (.enter 32 [x0, v7, v10])) fun v12 H12 =>
  outP CC H12 (w_int .eql H12 v11 v12) fun v13 H13 =>
  guardP (boolIs true v13) H13 (outP CC H13 (some (.val v11 H13))) fun v14 H14 =>
  guardP (boolIs true v13) H14 (outP CC H14 (some (.val x0 H14))) fun v15 H15 =>
  guardP (boolIs true v13) H15 (outP CC H15 (some (.val v10 H15))) fun v16 H16 =>
  guardP (boolIs true v13) H16 (outP CC H16 (some (.val v7 H16))) fun v17 H17 =>
  guardP (boolIs true v13) H17 (outP CC H17 (some (.enter 21 [v15, v16, v17]))) fun v18 H18 =>
  guardP (boolIs true v13) H18 (outP CC H18 (w_int .eql H18 v14 v18)) fun v19 H19 =>
  outP CC H19 (w_pick H19 v13 v19 (.bool false)) fun v20 H20 =>
  guardP (boolIs true v20) H20 (outP CC H20 (some (.val x0 H20))) fun v21 H21 =>
  guardP (boolIs true v20) H21 (outP CC H21 (some (.val x0 H21))) fun v22 H22 =>
  guardP (boolIs true v20) H22 (outP CC H22 (w_int .eql H22 v22 (.int .i64 1))) fun v23 H23 =>
  guardP (boolIs true v20) H23 (outP CC H23 (some (.enter 33 [v21]))) fun v24 H24 =>
  guardP (boolIs true v20) H24 (outP CC H24 (some (.val v23 H24))) fun v25 H25 =>
  guardP (boolIs false v25) H25 (outP CC H25 (some (.val x0 H25))) fun v26 H26 =>
  guardP (boolIs false v25) H26 (outP CC H26 (w_int .eql H26 v26 (.int .i64 2))) fun v27 H27 =>
  guardP (boolIs true v20) H27 (outP CC H27 (w_pick H27 v25 (.bool true) v27)) fun v28 H28 =>
  guardP (boolIs true v20) H28 (outP CC H28 (w_eq PP .eql 4 false false H28 v24 v28)) fun v29 H29 =>
  outP CC H29 (w_pick H29 v20 v29 (.bool false)) fun v30 H30 =>
  guardP (boolIs true v30) H30 (outP CC H30 (w_load (some 2) H30 v1)) fun v31 H31 =>
  guardP (boolIs true v30) H31 (outP CC H31 (w_load (some 2) H31 v2)) fun v32 H32 =>
  guardP (boolIs true v30) H32 (outP CC H32 (w_load (some 2) H32 v1)) fun v33 H33 =>
  guardP (boolIs true v30) H33 (outP CC H33 (w_load (some 2) H33 v2)) fun v34 H34 =>
  guardP (boolIs true v30) H34 (outP CC H34 (some (.enter 34 [v31, v32]))) fun v35 H35 =>
  ckP (reC (boolIs true v30) (w_load (some 2) H35 v1) v33) <|
  ckP (reC (boolIs true v30) (w_load (some 2) H35 v2) v34) <|
  guardP (boolIs true v30) H35 (outP CC H35 (some (.enter 35 [v33, v34]))) fun v36 H36 =>
  guardP (boolIs true v30) H36 (outP CC H36 (w_eq PP .eql 4 false false H36 v35 v36)) fun v37 H37 =>
  outP CC H37 (w_pick H37 v30 v37 (.bool false)) fun v38 H38 =>
  guardP (boolIs true v38) H38 (outP CC H38 (w_load (some 2) H38 v1)) fun v39 H39 =>
  guardP (boolIs true v38) H39 (outP CC H39 (w_load (some 2) H39 v2)) fun v40 H40 =>
  guardP (boolIs true v38) H40 (outP CC H40 (some (.enter 34 [v39, v40]))) fun v41 H41 =>
  guardP (boolIs true v38) H41 (outP CC H41 (some (.val v41 H41))) fun v42 H42 =>
  guardP (boolIs true v42) H42 (outP CC H42 (w_load (some 2) H42 v2)) fun v43 H43 =>
  guardP (boolIs true v42) H43 (outP CC H43 (w_load (some 2) H43 v1)) fun v44 H44 =>
  guardP (boolIs true v42) H44 (outP CC H44 (some (.enter 34 [v43, v44]))) fun v45 H45 =>
  guardP (boolIs true v38) H45 (outP CC H45 (w_pick H45 v42 v45 (.bool false))) fun v46 H46 =>
  guardP (boolIs true v38) H46 (outP CC H46 (w_un .not H46 v46)) fun v47 H47 =>
  outP CC H47 (w_pick H47 v38 v47 (.bool false)) fun v48 H48 =>
  guardP (boolIs true v48) H48 (outP CC H48 (w_load (some 2) H48 v1)) fun v49 H49 =>
  guardP (boolIs true v48) H49 (outP CC H49 (w_load (some 2) H49 v2)) fun v50 H50 =>
  guardP (boolIs true v48) H50 (outP CC H50 (w_eq PP .eql 60 false false H50 v49 v50)) fun v51 H51 =>
  guardP (boolIs true v48) H51 (outP CC H51 (some (.val v51 H51))) fun v52 H52 =>
  guardP (boolIs false v52) H52 (outP CC H52 (w_load (some 2) H52 v1)) fun v53 H53 =>
  guardP (boolIs false v52) H53 (outP CC H53 (w_load (some 2) H53 v2)) fun v54 H54 =>
  guardP (boolIs false v52) H54 (outP CC H54 (some (.enter 34 [v53, v54]))) fun v55 H55 =>
  guardP (boolIs true v48) H55 (outP CC H55 (w_pick H55 v52 (.bool true) v55)) fun v56 H56 =>
  guardP (boolIs true v48) H56 (outP CC H56 (some (.val v56 H56))) fun v57 H57 =>
  guardP (boolIs false v57) H57 (outP CC H57 (w_load (some 2) H57 v2)) fun v58 H58 =>
  guardP (boolIs false v57) H58 (outP CC H58 (w_load (some 2) H58 v1)) fun v59 H59 =>
  guardP (boolIs false v57) H59 (outP CC H59 (some (.enter 34 [v58, v59]))) fun v60 H60 =>
  guardP (boolIs true v48) H60 (outP CC H60 (w_pick H60 v57 (.bool true) v60)) fun v61 H61 =>
  outP CC H61 (w_pick H61 v48 v61 (.bool false)) fun v62 H62 =>
  guardP (boolIs true v62) H62 (outP CC H62 (some (.val x0 H62))) fun v63 H63 =>
  guardP (boolIs true v62) H63 (outP CC H63 (w_int .neq H63 v63 (.int .i64 1))) fun v64 H64 =>
  guardP (boolIs true v62) H64 (outP CC H64 (some (.val v64 H64))) fun v65 H65 =>
  guardP (boolIs false v65) H65 (outP CC H65 (some (.val v11 H65))) fun v66 H66 =>
  guardP (boolIs false v65) H66 (outP CC H66 (w_int .geq H66 v66 (.int .i64 0))) fun v67 H67 =>
  guardP (boolIs false v65) H67 (outP CC H67 (some (.val v67 H67))) fun v68 H68 =>
  guardP (boolIs true v68) H68 (outP CC H68 (some (.val x0 H68))) fun v69 H69 =>
  guardP (boolIs true v68) H69 (outP CC H69 (some (.val v7 H69))) fun v70 H70 =>
  guardP (boolIs true v68) H70 (outP CC H70 (some (.val v7 H70))) fun v71 H71 =>
  guardP (boolIs true v68) H71 (outP CC H71 (some (.enter 21 [v69, v70, v71]))) fun v72 H72 =>
  guardP (boolIs true v68) H72 (outP CC H72 (w_int .eql H72 v72 (.int .i64 0))) fun v73 H73 =>
  guardP (boolIs false v65) H73 (outP CC H73 (w_pick H73 v68 v73 (.bool false))) fun v74 H74 =>
  guardP (boolIs true v62) H74 (outP CC H74 (w_pick H74 v65 (.bool true) v74)) fun v75 H75 =>
  outP CC H75 (w_pick H75 v62 v75 (.bool false)) fun v76 H76 =>
  K v76 H76)
theorem m_fieldfarelaw7_MetricAll_eq (K : AV → AH → Prop) (a : TE) (H : AH) : codeP PP CC (subC (bodyC PP 9) []) (m_fieldfarelaw7_MetricAll_K K) a H = m_fieldfarelaw7_MetricAll K (a 0) (a 1) (a 2) (a 3) (a 4) H :=
  by kernel_rfl
theorem m_fieldfarelaw7_MetricAll_ok (x0 x1 x2 x3 x4 : AV) (H : AH) (K : AV → AH → Prop) (h : m_fieldfarelaw7_MetricAll K x0 x1 x2 x3 x4 H) : CC.call 9 [x0, x1, x2, x3, x4] H K :=
  have h1 : funP PP CC 9 [x0, x1, x2, x3, x4] H K = codeP PP CC (subC (bodyC PP 9) []) (m_fieldfarelaw7_MetricAll_K K) (argE [x0, x1, x2, x3, x4]) H := by kernel_rfl
  have h2 : m_fieldfarelaw7_MetricAll K (argE [x0, x1, x2, x3, x4] 0) (argE [x0, x1, x2, x3, x4] 1) (argE [x0, x1, x2, x3, x4] 2) (argE [x0, x1, x2, x3, x4] 3) (argE [x0, x1, x2, x3, x4] 4) H = m_fieldfarelaw7_MetricAll K x0 x1 x2 x3 x4 H := by kernel_rfl
  funP_ok (P := PP) (by kernel_rfl) (by kernel_rfl) ((h1.trans ((m_fieldfarelaw7_MetricAll_eq K (argE [x0, x1, x2, x3, x4]) H).trans h2)).mpr h)

/-! 32: fieldfare/fieldfareref1.Score -/
abbrev m_fieldfareref1_Score_K (K : AV → AH → Prop) : KP := finP PP (resC PP 32) K
abbrev m_fieldfareref1_Scorett_k (K : AV → AH → Prop) : KP := exP (codeP PP CC (subC (bodyC PP 32) [1, 1, 1]) (m_fieldfareref1_Score_K K)) (m_fieldfareref1_Score_K K)
abbrev m_fieldfareref1_Scorettht_k (K : AV → AH → Prop) : KP := blockP 0 (m_fieldfareref1_Scorett_k K)
abbrev m_fieldfareref1_Scoretthtb_k (K : AV → AH → Prop) (r0 : (AV × AV × AV × AV × AV) → AH → Prop) : KP := exP (fun (a : TE) (H : AH) => r0 (a 0, a 1, a 2, a 7, a 8) H) (m_fieldfareref1_Scorettht_k K)
def m_fieldfareref1_Scoretthtbltt (_K : AV → AH → Prop) (r0 : (AV × AV × AV × AV × AV) → AH → Prop) (x0 x1 x2 x7 x8 : AV) (H : AH) : Prop :=
  outP CC H (w_int .add H x8 (.int .i64 1)) fun v1 H1 =>
  r0 (x0, x1, x2, x7, v1) H1
theorem m_fieldfareref1_Scoretthtbltt_eq (K : AV → AH → Prop) (r0 : (AV × AV × AV × AV × AV) → AH → Prop) (a : TE) (H : AH) : codeP PP CC (subC (bodyC PP 32) [1, 1, 0, 1, 0, 0, 1, 1]) (m_fieldfareref1_Scoretthtb_k K r0) a H = m_fieldfareref1_Scoretthtbltt K r0 (a 0) (a 1) (a 2) (a 7) (a 8) H :=
  by kernel_rfl
abbrev m_fieldfareref1_Scoretthtblt_k (K : AV → AH → Prop) (r0 : (AV × AV × AV × AV × AV) → AH → Prop) : KP := exP (fun (a : TE) (H : AH) => m_fieldfareref1_Scoretthtbltt K r0 (a 0) (a 1) (a 2) (a 7) (a 8) H) (m_fieldfareref1_Scoretthtb_k K r0)
def m_fieldfareref1_Scoretthtblt (K : AV → AH → Prop) (r0 : (AV × AV × AV × AV × AV) → AH → Prop) (x0 x1 x2 x7 x8 : AV) (H : AH) : Prop :=
  outP CC H (w_indexAddr (.sl 1) H x1 x8) fun v1 H1 =>
  outP CC H1 (w_load none H1 v1) fun v2 H2 =>
  outP CC H2 (w_conv (.int .i64) H2 v2 none) fun v3 H3 =>
  outP CC H3 (w_indexAddr (.sl 1) H3 x2 x8) fun v4 H4 =>
  outP CC H4 (w_load none H4 v4) fun v5 H5 =>
  outP CC H5 (w_conv (.int .i64) H5 v5 none) fun v6 H6 =>
  outP CC H6 (w_int .eql H6 x0 (.int .i64 1)) fun v7 H7 =>
  condP v7
  (outP CC H7 (w_int .sub H7 v3 v6) fun v8 H8 =>
  outP CC H8 (w_int .sub H8 v3 v6) fun v9 H9 =>
  outP CC H9 (w_int .mul H9 v8 v9) fun v10 H10 =>
  outP CC H10 (w_int .add H10 x7 v10) fun v11 H11 =>
  m_fieldfareref1_Scoretthtbltt K r0 x0 x1 x2 v11 x8 H11)
  (outP CC H7 (w_int .eql H7 x0 (.int .i64 2)) fun v12 H12 =>
  condP v12
  (outP CC H12 (w_int .mul H12 v3 v6) fun v13 H13 =>
  outP CC H13 (w_int .sub H13 x7 v13) fun v14 H14 =>
  m_fieldfareref1_Scoretthtbltt K r0 x0 x1 x2 v14 x8 H14)
  (m_fieldfareref1_Scoretthtbltt K r0 x0 x1 x2 x7 x8 H12))
theorem m_fieldfareref1_Scoretthtblt_eq (K : AV → AH → Prop) (r0 : (AV × AV × AV × AV × AV) → AH → Prop) (a : TE) (H : AH) : codeP PP CC (subC (bodyC PP 32) [1, 1, 0, 1, 0, 0, 1]) (m_fieldfareref1_Scoretthtb_k K r0) a H = m_fieldfareref1_Scoretthtblt K r0 (a 0) (a 1) (a 2) (a 7) (a 8) H :=
  have h1 : codeP PP CC (subC (bodyC PP 32) [1, 1, 0, 1, 0, 0, 1]) (m_fieldfareref1_Scoretthtb_k K r0) a H = codeP PP CC (subC (bodyC PP 32) [1, 1, 0, 1, 0, 0, 1, 0]) (exP (codeP PP CC (subC (bodyC PP 32) [1, 1, 0, 1, 0, 0, 1, 1]) (m_fieldfareref1_Scoretthtb_k K r0)) (m_fieldfareref1_Scoretthtb_k K r0)) a H := by kernel_rfl
  have h2 : codeP PP CC (subC (bodyC PP 32) [1, 1, 0, 1, 0, 0, 1, 0]) (exP (codeP PP CC (subC (bodyC PP 32) [1, 1, 0, 1, 0, 0, 1, 1]) (m_fieldfareref1_Scoretthtb_k K r0)) (m_fieldfareref1_Scoretthtb_k K r0)) a H = codeP PP CC (subC (bodyC PP 32) [1, 1, 0, 1, 0, 0, 1, 0]) (exP (fun (a : TE) (H : AH) => m_fieldfareref1_Scoretthtbltt K r0 (a 0) (a 1) (a 2) (a 7) (a 8) H) (m_fieldfareref1_Scoretthtb_k K r0)) a H := congrArg (fun k : KE => codeP PP CC (subC (bodyC PP 32) [1, 1, 0, 1, 0, 0, 1, 0]) (exP k (m_fieldfareref1_Scoretthtb_k K r0)) a H) (funext fun a => funext fun H => m_fieldfareref1_Scoretthtbltt_eq K r0 a H)
  have h2b : codeP PP CC (subC (bodyC PP 32) [1, 1, 0, 1, 0, 0, 1, 0]) (exP (fun (a : TE) (H : AH) => m_fieldfareref1_Scoretthtbltt K r0 (a 0) (a 1) (a 2) (a 7) (a 8) H) (m_fieldfareref1_Scoretthtb_k K r0)) a H = codeP PP CC (subC (bodyC PP 32) [1, 1, 0, 1, 0, 0, 1, 0]) (m_fieldfareref1_Scoretthtblt_k K r0) a H := by kernel_rfl
  have h3 : codeP PP CC (subC (bodyC PP 32) [1, 1, 0, 1, 0, 0, 1, 0]) (m_fieldfareref1_Scoretthtblt_k K r0) a H = m_fieldfareref1_Scoretthtblt K r0 (a 0) (a 1) (a 2) (a 7) (a 8) H := by kernel_rfl
  ((h1.trans h2).trans h2b).trans h3
abbrev m_fieldfareref1_Scoretthtbl_k (K : AV → AH → Prop) (r0 : (AV × AV × AV × AV × AV) → AH → Prop) : KP := exP (fun (a : TE) (H : AH) => m_fieldfareref1_Scoretthtblt K r0 (a 0) (a 1) (a 2) (a 7) (a 8) H) (m_fieldfareref1_Scoretthtb_k K r0)
def m_fieldfareref1_Scoretthtbl (K : AV → AH → Prop) (r0 : (AV × AV × AV × AV × AV) → AH → Prop) (x0 x1 x2 x7 x8 : AV) (H : AH) : Prop :=
  outP CC H (w_len PP 25 H x1) fun v1 H1 =>
  outP CC H1 (w_len PP 25 H1 x2) fun v2 H2 =>
  outP CC H2 (w_min2 H2 v1 v2) fun v3 H3 =>
  outP CC H3 (w_int .lss H3 x8 v3) fun v4 H4 =>
  condP v4
  (m_fieldfareref1_Scoretthtblt K r0 x0 x1 x2 x7 x8 H4)
  (K x7 H4)
theorem m_fieldfareref1_Scoretthtbl_eq (K : AV → AH → Prop) (r0 : (AV × AV × AV × AV × AV) → AH → Prop) (a : TE) (H : AH) : codeP PP CC (subC (bodyC PP 32) [1, 1, 0, 1, 0, 0]) (m_fieldfareref1_Scoretthtb_k K r0) a H = m_fieldfareref1_Scoretthtbl K r0 (a 0) (a 1) (a 2) (a 7) (a 8) H :=
  have h1 : codeP PP CC (subC (bodyC PP 32) [1, 1, 0, 1, 0, 0]) (m_fieldfareref1_Scoretthtb_k K r0) a H = codeP PP CC (subC (bodyC PP 32) [1, 1, 0, 1, 0, 0, 0]) (exP (codeP PP CC (subC (bodyC PP 32) [1, 1, 0, 1, 0, 0, 1]) (m_fieldfareref1_Scoretthtb_k K r0)) (m_fieldfareref1_Scoretthtb_k K r0)) a H := by kernel_rfl
  have h2 : codeP PP CC (subC (bodyC PP 32) [1, 1, 0, 1, 0, 0, 0]) (exP (codeP PP CC (subC (bodyC PP 32) [1, 1, 0, 1, 0, 0, 1]) (m_fieldfareref1_Scoretthtb_k K r0)) (m_fieldfareref1_Scoretthtb_k K r0)) a H = codeP PP CC (subC (bodyC PP 32) [1, 1, 0, 1, 0, 0, 0]) (exP (fun (a : TE) (H : AH) => m_fieldfareref1_Scoretthtblt K r0 (a 0) (a 1) (a 2) (a 7) (a 8) H) (m_fieldfareref1_Scoretthtb_k K r0)) a H := congrArg (fun k : KE => codeP PP CC (subC (bodyC PP 32) [1, 1, 0, 1, 0, 0, 0]) (exP k (m_fieldfareref1_Scoretthtb_k K r0)) a H) (funext fun a => funext fun H => m_fieldfareref1_Scoretthtblt_eq K r0 a H)
  have h2b : codeP PP CC (subC (bodyC PP 32) [1, 1, 0, 1, 0, 0, 0]) (exP (fun (a : TE) (H : AH) => m_fieldfareref1_Scoretthtblt K r0 (a 0) (a 1) (a 2) (a 7) (a 8) H) (m_fieldfareref1_Scoretthtb_k K r0)) a H = codeP PP CC (subC (bodyC PP 32) [1, 1, 0, 1, 0, 0, 0]) (m_fieldfareref1_Scoretthtbl_k K r0) a H := by kernel_rfl
  have h3 : codeP PP CC (subC (bodyC PP 32) [1, 1, 0, 1, 0, 0, 0]) (m_fieldfareref1_Scoretthtbl_k K r0) a H = m_fieldfareref1_Scoretthtbl K r0 (a 0) (a 1) (a 2) (a 7) (a 8) H := by kernel_rfl
  ((h1.trans h2).trans h2b).trans h3
def m_fieldfareref1_Scoretthtb (K : AV → AH → Prop) (x0 x1 x2 x7 x8 : AV) (H : AH) : Prop :=
  loopP (fun (r0 : (AV × AV × AV × AV × AV) → AH → Prop) (s : (AV × AV × AV × AV × AV)) (H : AH) => m_fieldfareref1_Scoretthtbl K r0 s.1 s.2.1 s.2.2.1 s.2.2.2.1 s.2.2.2.2 H) (x0, x1, x2, x7, x8) H
theorem m_fieldfareref1_Scoretthtb_eq (K : AV → AH → Prop) (a : TE) (H : AH) : codeP PP CC (subC (bodyC PP 32) [1, 1, 0, 1, 0]) (m_fieldfareref1_Scorettht_k K) a H = m_fieldfareref1_Scoretthtb K (a 0) (a 1) (a 2) (a 7) (a 8) H :=
  have h1 : codeP PP CC (subC (bodyC PP 32) [1, 1, 0, 1, 0]) (m_fieldfareref1_Scorettht_k K) a H = loopP (fun (rec : KE) => codeP PP CC (subC (bodyC PP 32) [1, 1, 0, 1, 0, 0]) (exP rec (m_fieldfareref1_Scorettht_k K))) a H := by kernel_rfl
  have h2 := loopP_iso (F := fun (rec : KE) => codeP PP CC (subC (bodyC PP 32) [1, 1, 0, 1, 0, 0]) (exP rec (m_fieldfareref1_Scorettht_k K))) (S := (AV × AV × AV × AV × AV)) (fun a => (a 0, a 1, a 2, a 7, a 8)) (fun (r0 : (AV × AV × AV × AV × AV) → AH → Prop) (s : (AV × AV × AV × AV × AV)) (H : AH) => m_fieldfareref1_Scoretthtbl K r0 s.1 s.2.1 s.2.2.1 s.2.2.2.1 s.2.2.2.2 H) (fun (r0 : (AV × AV × AV × AV × AV) → AH → Prop) (a : TE) (H : AH) => (show codeP PP CC (subC (bodyC PP 32) [1, 1, 0, 1, 0, 0]) (exP (fun (a : TE) (H : AH) => r0 (a 0, a 1, a 2, a 7, a 8) H) (m_fieldfareref1_Scorettht_k K)) a H = codeP PP CC (subC (bodyC PP 32) [1, 1, 0, 1, 0, 0]) (m_fieldfareref1_Scoretthtb_k K r0) a H from by kernel_rfl).trans (m_fieldfareref1_Scoretthtbl_eq K r0 a H)) a H
  h1.trans h2
theorem m_fieldfareref1_Scorettht_eq (K : AV → AH → Prop) (a : TE) (H : AH) : codeP PP CC (subC (bodyC PP 32) [1, 1, 0, 1]) (m_fieldfareref1_Scorett_k K) a H = m_fieldfareref1_Scoretthtb K (a 0) (a 1) (a 2) (a 7) (a 8) H :=
  have h1 : codeP PP CC (subC (bodyC PP 32) [1, 1, 0, 1]) (m_fieldfareref1_Scorett_k K) a H = codeP PP CC (subC (bodyC PP 32) [1, 1, 0, 1, 0]) (m_fieldfareref1_Scorettht_k K) a H := by kernel_rfl
  h1.trans (m_fieldfareref1_Scoretthtb_eq K a H)
abbrev m_fieldfareref1_Scoretth_k (K : AV → AH → Prop) : KP := exP (fun (a : TE) (H : AH) => m_fieldfareref1_Scoretthtb K (a 0) (a 1) (a 2) (a 7) (a 8) H) (m_fieldfareref1_Scorett_k K)
def m_fieldfareref1_Scoretth (K : AV → AH → Prop) (x0 x1 x2 x7 : AV) (H : AH) : Prop :=
  m_fieldfareref1_Scoretthtb K x0 x1 x2 x7 (.int .i64 0) H
theorem m_fieldfareref1_Scoretth_eq (K : AV → AH → Prop) (a : TE) (H : AH) : codeP PP CC (subC (bodyC PP 32) [1, 1, 0]) (m_fieldfareref1_Scorett_k K) a H = m_fieldfareref1_Scoretth K (a 0) (a 1) (a 2) (a 7) H :=
  have h1 : codeP PP CC (subC (bodyC PP 32) [1, 1, 0]) (m_fieldfareref1_Scorett_k K) a H = codeP PP CC (subC (bodyC PP 32) [1, 1, 0, 0]) (exP (codeP PP CC (subC (bodyC PP 32) [1, 1, 0, 1]) (m_fieldfareref1_Scorett_k K)) (m_fieldfareref1_Scorett_k K)) a H := by kernel_rfl
  have h2 : codeP PP CC (subC (bodyC PP 32) [1, 1, 0, 0]) (exP (codeP PP CC (subC (bodyC PP 32) [1, 1, 0, 1]) (m_fieldfareref1_Scorett_k K)) (m_fieldfareref1_Scorett_k K)) a H = codeP PP CC (subC (bodyC PP 32) [1, 1, 0, 0]) (exP (fun (a : TE) (H : AH) => m_fieldfareref1_Scoretthtb K (a 0) (a 1) (a 2) (a 7) (a 8) H) (m_fieldfareref1_Scorett_k K)) a H := congrArg (fun k : KE => codeP PP CC (subC (bodyC PP 32) [1, 1, 0, 0]) (exP k (m_fieldfareref1_Scorett_k K)) a H) (funext fun a => funext fun H => m_fieldfareref1_Scorettht_eq K a H)
  have h2b : codeP PP CC (subC (bodyC PP 32) [1, 1, 0, 0]) (exP (fun (a : TE) (H : AH) => m_fieldfareref1_Scoretthtb K (a 0) (a 1) (a 2) (a 7) (a 8) H) (m_fieldfareref1_Scorett_k K)) a H = codeP PP CC (subC (bodyC PP 32) [1, 1, 0, 0]) (m_fieldfareref1_Scoretth_k K) a H := by kernel_rfl
  have h3 : codeP PP CC (subC (bodyC PP 32) [1, 1, 0, 0]) (m_fieldfareref1_Scoretth_k K) a H = m_fieldfareref1_Scoretth K (a 0) (a 1) (a 2) (a 7) H := by kernel_rfl
  ((h1.trans h2).trans h2b).trans h3
theorem m_fieldfareref1_Scorett_eq (K : AV → AH → Prop) (a : TE) (H : AH) : codeP PP CC (subC (bodyC PP 32) [1, 1]) (m_fieldfareref1_Score_K K) a H = m_fieldfareref1_Scoretth K (a 0) (a 1) (a 2) (a 7) H :=
  have h1 : codeP PP CC (subC (bodyC PP 32) [1, 1]) (m_fieldfareref1_Score_K K) a H = codeP PP CC (subC (bodyC PP 32) [1, 1, 0]) (m_fieldfareref1_Scorett_k K) a H := by kernel_rfl
  h1.trans (m_fieldfareref1_Scoretth_eq K a H)
abbrev m_fieldfareref1_Scoret_k (K : AV → AH → Prop) : KP := exP (fun (a : TE) (H : AH) => m_fieldfareref1_Scoretth K (a 0) (a 1) (a 2) (a 7) H) (m_fieldfareref1_Score_K K)
def m_fieldfareref1_Scoret (K : AV → AH → Prop) (x0 x1 x2 : AV) (H : AH) : Prop :=
  m_fieldfareref1_Scoretth K x0 x1 x2 (.int .i64 0) H
theorem m_fieldfareref1_Scoret_eq (K : AV → AH → Prop) (a : TE) (H : AH) : codeP PP CC (subC (bodyC PP 32) [1]) (m_fieldfareref1_Score_K K) a H = m_fieldfareref1_Scoret K (a 0) (a 1) (a 2) H :=
  have h1 : codeP PP CC (subC (bodyC PP 32) [1]) (m_fieldfareref1_Score_K K) a H = codeP PP CC (subC (bodyC PP 32) [1, 0]) (exP (codeP PP CC (subC (bodyC PP 32) [1, 1]) (m_fieldfareref1_Score_K K)) (m_fieldfareref1_Score_K K)) a H := by kernel_rfl
  have h2 : codeP PP CC (subC (bodyC PP 32) [1, 0]) (exP (codeP PP CC (subC (bodyC PP 32) [1, 1]) (m_fieldfareref1_Score_K K)) (m_fieldfareref1_Score_K K)) a H = codeP PP CC (subC (bodyC PP 32) [1, 0]) (exP (fun (a : TE) (H : AH) => m_fieldfareref1_Scoretth K (a 0) (a 1) (a 2) (a 7) H) (m_fieldfareref1_Score_K K)) a H := congrArg (fun k : KE => codeP PP CC (subC (bodyC PP 32) [1, 0]) (exP k (m_fieldfareref1_Score_K K)) a H) (funext fun a => funext fun H => m_fieldfareref1_Scorett_eq K a H)
  have h2b : codeP PP CC (subC (bodyC PP 32) [1, 0]) (exP (fun (a : TE) (H : AH) => m_fieldfareref1_Scoretth K (a 0) (a 1) (a 2) (a 7) H) (m_fieldfareref1_Score_K K)) a H = codeP PP CC (subC (bodyC PP 32) [1, 0]) (m_fieldfareref1_Scoret_k K) a H := by kernel_rfl
  have h3 : codeP PP CC (subC (bodyC PP 32) [1, 0]) (m_fieldfareref1_Scoret_k K) a H = m_fieldfareref1_Scoret K (a 0) (a 1) (a 2) H := by kernel_rfl
  ((h1.trans h2).trans h2b).trans h3
abbrev m_fieldfareref1_Score_k (K : AV → AH → Prop) : KP := exP (fun (a : TE) (H : AH) => m_fieldfareref1_Scoret K (a 0) (a 1) (a 2) H) (m_fieldfareref1_Score_K K)
def m_fieldfareref1_Score (K : AV → AH → Prop) (x0 x1 x2 : AV) (H : AH) : Prop :=
  m_fieldfareref1_Scoret K x0 x1 x2 H
theorem m_fieldfareref1_Score_eq (K : AV → AH → Prop) (a : TE) (H : AH) : codeP PP CC (subC (bodyC PP 32) []) (m_fieldfareref1_Score_K K) a H = m_fieldfareref1_Score K (a 0) (a 1) (a 2) H :=
  have h1 : codeP PP CC (subC (bodyC PP 32) []) (m_fieldfareref1_Score_K K) a H = codeP PP CC (subC (bodyC PP 32) [0]) (exP (codeP PP CC (subC (bodyC PP 32) [1]) (m_fieldfareref1_Score_K K)) (m_fieldfareref1_Score_K K)) a H := by kernel_rfl
  have h2 : codeP PP CC (subC (bodyC PP 32) [0]) (exP (codeP PP CC (subC (bodyC PP 32) [1]) (m_fieldfareref1_Score_K K)) (m_fieldfareref1_Score_K K)) a H = codeP PP CC (subC (bodyC PP 32) [0]) (exP (fun (a : TE) (H : AH) => m_fieldfareref1_Scoret K (a 0) (a 1) (a 2) H) (m_fieldfareref1_Score_K K)) a H := congrArg (fun k : KE => codeP PP CC (subC (bodyC PP 32) [0]) (exP k (m_fieldfareref1_Score_K K)) a H) (funext fun a => funext fun H => m_fieldfareref1_Scoret_eq K a H)
  have h2b : codeP PP CC (subC (bodyC PP 32) [0]) (exP (fun (a : TE) (H : AH) => m_fieldfareref1_Scoret K (a 0) (a 1) (a 2) H) (m_fieldfareref1_Score_K K)) a H = codeP PP CC (subC (bodyC PP 32) [0]) (m_fieldfareref1_Score_k K) a H := by kernel_rfl
  have h3 : codeP PP CC (subC (bodyC PP 32) [0]) (m_fieldfareref1_Score_k K) a H = m_fieldfareref1_Score K (a 0) (a 1) (a 2) H := by kernel_rfl
  ((h1.trans h2).trans h2b).trans h3
theorem m_fieldfareref1_Score_ok (x0 x1 x2 : AV) (H : AH) (K : AV → AH → Prop) (h : m_fieldfareref1_Score K x0 x1 x2 H) : CC.call 32 [x0, x1, x2] H K :=
  have h1 : funP PP CC 32 [x0, x1, x2] H K = codeP PP CC (subC (bodyC PP 32) []) (m_fieldfareref1_Score_K K) (argE [x0, x1, x2]) H := by kernel_rfl
  have h2 : m_fieldfareref1_Score K (argE [x0, x1, x2] 0) (argE [x0, x1, x2] 1) (argE [x0, x1, x2] 2) H = m_fieldfareref1_Score K x0 x1 x2 H := by kernel_rfl
  funP_ok (P := PP) (by kernel_rfl) (by kernel_rfl) ((h1.trans ((m_fieldfareref1_Score_eq K (argE [x0, x1, x2]) H).trans h2)).mpr h)

/-! 33: fieldfare/metric.Known -/
abbrev m_metric_Known_K (K : AV → AH → Prop) : KP := finP PP (resC PP 33) K
def m_metric_Known (K : AV → AH → Prop) (x0 : AV) (H : AH) : Prop :=
  outP CC H (w_int .eql H x0 (.int .i64 1)) fun v1 H1 =>
  guardP (boolIs false v1) H1 (outP CC H1 (some (.val x0 H1))) fun v2 H2 =>
  guardP (boolIs false v1) H2 (outP CC H2 (w_int .eql H2 v2 (.int .i64 2))) fun v3 H3 =>
  outP CC H3 (w_pick H3 v1 (.bool true) v3) fun v4 H4 =>
  K v4 H4
theorem m_metric_Known_eq (K : AV → AH → Prop) (a : TE) (H : AH) : codeP PP CC (subC (bodyC PP 33) []) (m_metric_Known_K K) a H = m_metric_Known K (a 0) H :=
  by kernel_rfl
theorem m_metric_Known_ok (x0 : AV) (H : AH) (K : AV → AH → Prop) (h : m_metric_Known K x0 H) : CC.call 33 [x0] H K :=
  have h1 : funP PP CC 33 [x0] H K = codeP PP CC (subC (bodyC PP 33) []) (m_metric_Known_K K) (argE [x0]) H := by kernel_rfl
  have h2 : m_metric_Known K (argE [x0] 0) H = m_metric_Known K x0 H := by kernel_rfl
  funP_ok (P := PP) (by kernel_rfl) (by kernel_rfl) ((h1.trans ((m_metric_Known_eq K (argE [x0]) H).trans h2)).mpr h)

/-! 35: fieldfare/fieldfareref1.Less -/
abbrev m_fieldfareref1_Less_K (K : AV → AH → Prop) : KP := finP PP (resC PP 35) K
def m_fieldfareref1_Less (K : AV → AH → Prop) (x0 x1 : AV) (H : AH) : Prop :=
  outP CC H (w_box 60 H x0 none) fun v1 H1 =>
  outP CC H1 (w_box 60 H1 x1 none) fun v2 H2 =>
  outP CC H2 (w_fieldAddr 1 H2 v1) fun v3 H3 =>
  outP CC H3 (w_load none H3 v3) fun v4 H4 =>
  outP CC H4 (w_fieldAddr 1 H4 v2) fun v5 H5 =>
  outP CC H5 (w_load none H5 v5) fun v6 H6 =>
  outP CC H6 (w_int .lss H6 v4 v6) fun v7 H7 =>
  guardP (boolIs false v7) H7 (outP CC H7 (w_fieldAddr 1 H7 v1)) fun v8 H8 =>
  guardP (boolIs false v7) H8 (outP CC H8 (w_load none H8 v8)) fun v9 H9 =>
  guardP (boolIs false v7) H9 (outP CC H9 (w_fieldAddr 1 H9 v2)) fun v10 H10 =>
  guardP (boolIs false v7) H10 (outP CC H10 (w_load none H10 v10)) fun v11 H11 =>
  guardP (boolIs false v7) H11 (outP CC H11 (w_int .eql H11 v9 v11)) fun v12 H12 =>
  guardP (boolIs false v7) H12 (outP CC H12 (some (.val v12 H12))) fun v13 H13 =>
  guardP (boolIs true v13) H13 (outP CC H13 (w_fieldAddr 0 H13 v1)) fun v14 H14 =>
  guardP (boolIs true v13) H14 (outP CC H14 (w_load none H14 v14)) fun v15 H15 =>
  guardP (boolIs true v13) H15 (outP CC H15 (w_fieldAddr 0 H15 v2)) fun v16 H16 =>
  guardP (boolIs true v13) H16 (outP CC H16 (w_load none H16 v16)) fun v17 H17 =>
  guardP (boolIs true v13) H17 (outP CC H17 (w_int .lss H17 v15 v17)) fun v18 H18 =>
  guardP (boolIs false v7) H18 (outP CC H18 (w_pick H18 v13 v18 (.bool false))) fun v19 H19 =>
  outP CC H19 (w_pick H19 v7 (.bool true) v19) fun v20 H20 =>
  K v20 H20
theorem m_fieldfareref1_Less_eq (K : AV → AH → Prop) (a : TE) (H : AH) : codeP PP CC (subC (bodyC PP 35) []) (m_fieldfareref1_Less_K K) a H = m_fieldfareref1_Less K (a 0) (a 1) H :=
  by kernel_rfl
theorem m_fieldfareref1_Less_ok (x0 x1 : AV) (H : AH) (K : AV → AH → Prop) (h : m_fieldfareref1_Less K x0 x1 H) : CC.call 35 [x0, x1] H K :=
  have h1 : funP PP CC 35 [x0, x1] H K = codeP PP CC (subC (bodyC PP 35) []) (m_fieldfareref1_Less_K K) (argE [x0, x1]) H := by kernel_rfl
  have h2 : m_fieldfareref1_Less K (argE [x0, x1] 0) (argE [x0, x1] 1) H = m_fieldfareref1_Less K x0 x1 H := by kernel_rfl
  funP_ok (P := PP) (by kernel_rfl) (by kernel_rfl) ((h1.trans ((m_fieldfareref1_Less_eq K (argE [x0, x1]) H).trans h2)).mpr h)

end
end Go.Ab
