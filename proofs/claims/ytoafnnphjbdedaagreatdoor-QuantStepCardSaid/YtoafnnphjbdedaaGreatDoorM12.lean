/- What functions do, said as what the evaluator does. Printed by a program. -/
import Derived.Test.YtoafnnphjbdedaaGreatDoorBeg
import Derived.Test.YtoafnnphjbdedaaGreatDoorEv3
namespace Go.Ab
noncomputable section
open Go.Proofs
set_option maxRecDepth 100000



/-! 12: fieldfare/fieldfarelaw7.QuantStep -/
abbrev m_fieldfarelaw7_QuantStep_K (K : AV → AH → Prop) : KP := finP PP (resC PP 12) K
def m_fieldfarelaw7_QuantStepttttt (K : AV → AH → Prop) (x0 x1 x2 : AV) (H : AH) : Prop :=
  outP CC H (w_buildSlice PP 21 1 H [(0, x1)] none) fun v1 H1 =>
  outP CC H1 (w_buildSlice PP 21 1 H1 [(0, x0)] none) fun v2 H2 =>
  outP CC H2 (w_buildSlice PP 28 2 H2 [(0, v1), (1, v2)] none) fun v3 H3 =>
  outP CC H3 (some (.enter 34 [(.int .i64 1), v3])) fun v4 H4 =>
  outP CC H4 (w_alloc 65 [(.slice none 0 0 true), (.slice none 0 0 true)] H4 none) fun v5 H5 =>
  outP CC H5 (w_store 2 H5 v5 v4) fun _v6 H6 =>
  outP CC H6 (w_fieldAddr 1 H6 v5) fun v7 H7 =>
  outP CC H7 (w_load none H7 v7) fun v8 H8 =>
  outP CC H8 (w_len PP 27 H8 v8) fun v9 H9 =>
  outP CC H9 (w_int .neq H9 v9 (.int .i64 1)) fun v10 H10 =>
  guardP (boolIs false v10) H10 (outP CC H10 (w_fieldAddr 0 H10 v5)) fun v11 H11 =>
  guardP (boolIs false v10) H11 (outP CC H11 (w_load none H11 v11)) fun v12 H12 =>
  guardP (boolIs false v10) H12 (outP CC H12 (w_indexAddr (.sl 1) H12 v12 (.int .i64 0))) fun v13 H13 =>
  guardP (boolIs false v10) H13 (outP CC H13 (w_load none H13 v13)) fun v14 H14 =>
  guardP (boolIs false v10) H14 (outP CC H14 (some (.val x0 H14))) fun v15 H15 =>
  guardP (boolIs false v10) H15 (outP CC H15 (w_int .neq H15 v14 v15)) fun v16 H16 =>
  outP CC H16 (w_pick H16 v10 (.bool true) v16) fun v17 H17 =>
  guardP (boolIs false v17) H17 (outP CC H17 (some (.val x0 H17))) fun v18 H18 =>
  guardP (boolIs false v17) H18 (outP CC H18 (w_conv (.int .i64) H18 v18 none)) fun v19 H19 =>
  guardP (boolIs false v17) H19 (outP CC H19 (w_fieldAddr 1 H19 v5)) fun v20 H20 =>
  guardP (boolIs false v17) H20 (outP CC H20 (w_load none H20 v20)) fun v21 H21 =>
  guardP (boolIs false v17) H21 (outP CC H21 (w_indexAddr (.sl 1) H21 v21 (.int .i64 0))) fun v22 H22 =>
  guardP (boolIs false v17) H22 (outP CC H22 (w_load none H22 v22)) fun v23 H23 =>
  guardP (boolIs false v17) H23 (outP CC H23 (w_conv (.int .i64) H23 v23 none)) fun v24 H24 =>
  guardP (boolIs false v17) H24 (outP CC H24 (w_int .mul H24 (.int .i64 255) v24)) fun v25 H25 =>
  guardP (boolIs false v17) H25 (outP CC H25 (w_int .add H25 v19 v25)) fun v26 H26 =>
  guardP (boolIs false v17) H26 (outP CC H26 (some (.val x1 H26))) fun v27 H27 =>
  guardP (boolIs false v17) H27 (outP CC H27 (w_conv (.int .i64) H27 v27 none)) fun v28 H28 =>
  guardP (boolIs false v17) H28 (outP CC H28 (w_int .lss H28 v26 v28)) fun v29 H29 =>
  outP CC H29 (w_pick H29 v17 (.bool true) v29) fun v30 H30 =>
  guardP (boolIs false v30) H30 (outP CC H30 (w_fieldAddr 1 H30 v5)) fun v31 H31 =>
  guardP (boolIs false v30) H31 (outP CC H31 (w_load none H31 v31)) fun v32 H32 =>
  guardP (boolIs false v30) H32 (outP CC H32 (w_indexAddr (.sl 1) H32 v32 (.int .i64 0))) fun v33 H33 =>
  guardP (boolIs false v30) H33 (outP CC H33 (w_load none H33 v33)) fun v34 H34 =>
  guardP (boolIs false v30) H34 (outP CC H34 (w_int .gtr H34 v34 (.int .i32 1))) fun v35 H35 =>
  guardP (boolIs false v30) H35 (outP CC H35 (some (.val v35 H35))) fun v36 H36 =>
  guardP (boolIs true v36) H36 (outP CC H36 (some (.val x0 H36))) fun v37 H37 =>
  guardP (boolIs true v36) H37 (outP CC H37 (w_conv (.int .i64) H37 v37 none)) fun v38 H38 =>
  guardP (boolIs true v36) H38 (outP CC H38 (w_fieldAddr 1 H38 v5)) fun v39 H39 =>
  guardP (boolIs true v36) H39 (outP CC H39 (w_load none H39 v39)) fun v40 H40 =>
  guardP (boolIs true v36) H40 (outP CC H40 (w_indexAddr (.sl 1) H40 v40 (.int .i64 0))) fun v41 H41 =>
  guardP (boolIs true v36) H41 (outP CC H41 (w_load none H41 v41)) fun v42 H42 =>
  guardP (boolIs true v36) H42 (outP CC H42 (w_int .sub H42 v42 (.int .i32 1))) fun v43 H43 =>
  guardP (boolIs true v36) H43 (outP CC H43 (w_conv (.int .i64) H43 v43 none)) fun v44 H44 =>
  guardP (boolIs true v36) H44 (outP CC H44 (w_int .mul H44 (.int .i64 255) v44)) fun v45 H45 =>
  guardP (boolIs true v36) H45 (outP CC H45 (w_int .add H45 v38 v45)) fun v46 H46 =>
  guardP (boolIs true v36) H46 (outP CC H46 (some (.val x1 H46))) fun v47 H47 =>
  guardP (boolIs true v36) H47 (outP CC H47 (w_conv (.int .i64) H47 v47 none)) fun v48 H48 =>
  guardP (boolIs true v36) H48 (outP CC H48 (w_int .geq H48 v46 v48)) fun v49 H49 =>
  guardP (boolIs false v30) H49 (outP CC H49 (w_pick H49 v36 v49 (.bool false))) fun v50 H50 =>
  outP CC H50 (w_pick H50 v30 (.bool true) v50) fun v51 H51 =>
  condP v51
  (K (.bool false) H51)
  (outP CC H51 (w_conv (.int .i64) H51 x0 none) fun v52 H52 =>
  outP CC H52 (w_conv (.int .i64) H52 x2 none) fun v53 H53 =>
  outP CC H53 (w_fieldAddr 1 H53 v5) fun v54 H54 =>
  outP CC H54 (w_load none H54 v54) fun v55 H55 =>
  outP CC H55 (w_indexAddr (.sl 1) H55 v55 (.int .i64 0)) fun v56 H56 =>
  outP CC H56 (w_load none H56 v56) fun v57 H57 =>
  outP CC H57 (w_conv (.int .i64) H57 v57 none) fun v58 H58 =>
  outP CC H58 (w_int .mul H58 v53 v58) fun v59 H59 =>
  outP CC H59 (w_int .add H59 v52 v59) fun v60 H60 =>
  outP CC H60 (w_int .gtr H60 v60 (.int .i64 1048576)) fun v61 H61 =>
  condP v61
  (K (.bool true) H61)
  (outP CC H61 (w_load (some 2) H61 v5) fun v62 H62 =>
  outP CC H62 (w_conv (.int .i32) H62 v60 none) fun v63 H63 =>
  outP CC H63 (w_buildSlice PP 21 1 H63 [(0, v63)] none) fun v64 H64 =>
  outP CC H64 (some (.enter 39 [v62, v64])) fun v65 H65 =>
  outP CC (H65.more 1) (w_len PP 72 (H65.more 1) v65) fun v66 H66 =>
  outP CC H66 (w_int .eql H66 v66 (.int .i64 1)) fun v67 H67 =>
  guardP (boolIs true v67) H67 (outP CC H67 (some (.val v65 H67))) fun v68 H68 =>
  guardP (boolIs true v67) H68 (outP CC H68 (w_indexAddr (.sl 1) H68 v68 (.int .i64 0))) fun v69 H69 =>
  guardP (boolIs true v67) H69 (outP CC H69 (w_load none H69 v69)) fun v70 H70 =>
  guardP (boolIs true v67) H70 (outP CC H70 (some (.val x2 H70))) fun v71 H71 =>
  guardP (boolIs true v67) H71 (outP CC H71 (w_int .eql H71 v70 v71)) fun v72 H72 =>
  outP CC H72 (w_pick H72 v67 v72 (.bool false)) fun v73 H73 =>
  guardP (boolIs true v73) H73 (outP CC H73 (w_load (some 2) H73 v5)) fun v74 H74 =>
  guardP (boolIs true v73) H74 (outP CC H74 (some (.val v65 H74))) fun v75 H75 =>
  guardP (boolIs true v73) H75 (outP CC H75 (some (.val v60 H75))) fun v76 H76 =>
  guardP (boolIs true v73) H76 (outP CC H76 (w_conv (.int .i32) H76 v76 none)) fun v77 H77 =>
  guardP (boolIs true v73) H77 (outP CC H77 (some (.enter 41 [v74, v75]))) fun v78 H78 =>
  ckP (reC (boolIs true v73) (w_conv (.int .i32) H78 v76 none) v77) <|
  guardP (boolIs true v73) H78 (outP CC H78 (w_buildSlice PP 21 1 H78 [(0, v77)] (some (Nat.add H65.next 0)))) fun v79 H79 =>
  guardP (boolIs true v73) H79 (outP CC H79 (some (.enter 19 [v78, v79]))) fun v80 H80 =>
  outP CC H80 (w_pick H80 v73 v80 (.bool false)) fun v81 H81 =>
  guardP (boolIs true v81) H81 (outP CC H81 (w_load (some 2) H81 v5)) fun v82 H82 =>
  guardP (boolIs true v81) H82 (outP CC H82 (w_fieldAddr 1 H82 v5)) fun v83 H83 =>
  guardP (boolIs true v81) H83 (outP CC H83 (w_load none H83 v83)) fun v84 H84 =>
  guardP (boolIs true v81) H84 (outP CC H84 (w_indexAddr (.sl 1) H84 v84 (.int .i64 0))) fun v85 H85 =>
  guardP (boolIs true v81) H85 (outP CC H85 (w_load none H85 v85)) fun v86 H86 =>
  guardP (boolIs true v81) H86 (outP CC H86 (w_int .add H86 v86 (.int .i32 1))) fun v87 H87 =>
  guardP (boolIs true v81) H87 (outP CC H87 (w_int .quo H87 v87 (.int .i32 2))) fun v88 H88 =>
  guardP (boolIs true v81) H88 (outP CC H88 (some (.enter 37 [v82]))) fun v89 H89 =>
  ckP (reC (boolIs true v81) (w_load none H89 v83) v84) <|
  ckP (reC (boolIs true v81) (w_load none H89 v85) v86) <|
  guardP (boolIs true v81) H89 (outP CC H89 (w_int .eql H89 v89 v88)) fun v90 H90 =>
  outP CC H90 (w_pick H90 v81 v90 (.bool false)) fun v91 H91 =>
  K v91 H91))
theorem m_fieldfarelaw7_QuantStepttttt_eq (K : AV → AH → Prop) (a : TE) (H : AH) : codeP PP CC (subC (bodyC PP 12) [1, 1, 1, 1, 1]) (m_fieldfarelaw7_QuantStep_K K) a H = m_fieldfarelaw7_QuantStepttttt K (a 0) (a 1) (a 2) H :=
  by kernel_rfl
abbrev m_fieldfarelaw7_QuantSteptttt_k (K : AV → AH → Prop) : KP := exP (fun (a : TE) (H : AH) => m_fieldfarelaw7_QuantStepttttt K (a 0) (a 1) (a 2) H) (m_fieldfarelaw7_QuantStep_K K)
def m_fieldfarelaw7_QuantSteptttt (K : AV → AH → Prop) (x0 x1 x2 : AV) (H : AH) : Prop :=
  outP CC H (w_int .gtr H x0 x1) fun v1 H1 =>
  condP v1
  (m_fieldfarelaw7_QuantStepttttt K x1 x0 x2 H1)
  (m_fieldfarelaw7_QuantStepttttt K x0 x1 x2 H1)
theorem m_fieldfarelaw7_QuantSteptttt_eq (K : AV → AH → Prop) (a : TE) (H : AH) : codeP PP CC (subC (bodyC PP 12) [1, 1, 1, 1]) (m_fieldfarelaw7_QuantStep_K K) a H = m_fieldfarelaw7_QuantSteptttt K (a 0) (a 1) (a 2) H :=
  have h1 : codeP PP CC (subC (bodyC PP 12) [1, 1, 1, 1]) (m_fieldfarelaw7_QuantStep_K K) a H = codeP PP CC (subC (bodyC PP 12) [1, 1, 1, 1, 0]) (exP (codeP PP CC (subC (bodyC PP 12) [1, 1, 1, 1, 1]) (m_fieldfarelaw7_QuantStep_K K)) (m_fieldfarelaw7_QuantStep_K K)) a H := by kernel_rfl
  have h2 : codeP PP CC (subC (bodyC PP 12) [1, 1, 1, 1, 0]) (exP (codeP PP CC (subC (bodyC PP 12) [1, 1, 1, 1, 1]) (m_fieldfarelaw7_QuantStep_K K)) (m_fieldfarelaw7_QuantStep_K K)) a H = codeP PP CC (subC (bodyC PP 12) [1, 1, 1, 1, 0]) (exP (fun (a : TE) (H : AH) => m_fieldfarelaw7_QuantStepttttt K (a 0) (a 1) (a 2) H) (m_fieldfarelaw7_QuantStep_K K)) a H := congrArg (fun k : KE => codeP PP CC (subC (bodyC PP 12) [1, 1, 1, 1, 0]) (exP k (m_fieldfarelaw7_QuantStep_K K)) a H) (funext fun a => funext fun H => m_fieldfarelaw7_QuantStepttttt_eq K a H)
  have h2b : codeP PP CC (subC (bodyC PP 12) [1, 1, 1, 1, 0]) (exP (fun (a : TE) (H : AH) => m_fieldfarelaw7_QuantStepttttt K (a 0) (a 1) (a 2) H) (m_fieldfarelaw7_QuantStep_K K)) a H = codeP PP CC (subC (bodyC PP 12) [1, 1, 1, 1, 0]) (m_fieldfarelaw7_QuantSteptttt_k K) a H := by kernel_rfl
  have h3 : codeP PP CC (subC (bodyC PP 12) [1, 1, 1, 1, 0]) (m_fieldfarelaw7_QuantSteptttt_k K) a H = m_fieldfarelaw7_QuantSteptttt K (a 0) (a 1) (a 2) H := by kernel_rfl
  ((h1.trans h2).trans h2b).trans h3
abbrev m_fieldfarelaw7_QuantStepttt_k (K : AV → AH → Prop) : KP := exP (fun (a : TE) (H : AH) => m_fieldfarelaw7_QuantSteptttt K (a 0) (a 1) (a 2) H) (m_fieldfarelaw7_QuantStep_K K)
def m_fieldfarelaw7_QuantStepttt (K : AV → AH → Prop) (x0 x1 x2 : AV) (H : AH) : Prop :=
  outP CC H (w_int .rem H x0 (.int .i32 1048576)) fun v1 H1 =>
  outP CC H1 (w_int .rem H1 x1 (.int .i32 1048576)) fun v2 H2 =>
  m_fieldfarelaw7_QuantSteptttt K v1 v2 x2 H2
theorem m_fieldfarelaw7_QuantStepttt_eq (K : AV → AH → Prop) (a : TE) (H : AH) : codeP PP CC (subC (bodyC PP 12) [1, 1, 1]) (m_fieldfarelaw7_QuantStep_K K) a H = m_fieldfarelaw7_QuantStepttt K (a 0) (a 1) (a 2) H :=
  have h1 : codeP PP CC (subC (bodyC PP 12) [1, 1, 1]) (m_fieldfarelaw7_QuantStep_K K) a H = codeP PP CC (subC (bodyC PP 12) [1, 1, 1, 0]) (exP (codeP PP CC (subC (bodyC PP 12) [1, 1, 1, 1]) (m_fieldfarelaw7_QuantStep_K K)) (m_fieldfarelaw7_QuantStep_K K)) a H := by kernel_rfl
  have h2 : codeP PP CC (subC (bodyC PP 12) [1, 1, 1, 0]) (exP (codeP PP CC (subC (bodyC PP 12) [1, 1, 1, 1]) (m_fieldfarelaw7_QuantStep_K K)) (m_fieldfarelaw7_QuantStep_K K)) a H = codeP PP CC (subC (bodyC PP 12) [1, 1, 1, 0]) (exP (fun (a : TE) (H : AH) => m_fieldfarelaw7_QuantSteptttt K (a 0) (a 1) (a 2) H) (m_fieldfarelaw7_QuantStep_K K)) a H := congrArg (fun k : KE => codeP PP CC (subC (bodyC PP 12) [1, 1, 1, 0]) (exP k (m_fieldfarelaw7_QuantStep_K K)) a H) (funext fun a => funext fun H => m_fieldfarelaw7_QuantSteptttt_eq K a H)
  have h2b : codeP PP CC (subC (bodyC PP 12) [1, 1, 1, 0]) (exP (fun (a : TE) (H : AH) => m_fieldfarelaw7_QuantSteptttt K (a 0) (a 1) (a 2) H) (m_fieldfarelaw7_QuantStep_K K)) a H = codeP PP CC (subC (bodyC PP 12) [1, 1, 1, 0]) (m_fieldfarelaw7_QuantStepttt_k K) a H := by kernel_rfl
  have h3 : codeP PP CC (subC (bodyC PP 12) [1, 1, 1, 0]) (m_fieldfarelaw7_QuantStepttt_k K) a H = m_fieldfarelaw7_QuantStepttt K (a 0) (a 1) (a 2) H := by kernel_rfl
  ((h1.trans h2).trans h2b).trans h3
abbrev m_fieldfarelaw7_QuantSteptt_k (K : AV → AH → Prop) : KP := exP (fun (a : TE) (H : AH) => m_fieldfarelaw7_QuantStepttt K (a 0) (a 1) (a 2) H) (m_fieldfarelaw7_QuantStep_K K)
def m_fieldfarelaw7_QuantSteptt (K : AV → AH → Prop) (x0 x1 x2 x7 : AV) (H : AH) : Prop :=
  outP CC H (w_un .not H x7) fun v1 H1 =>
  condP v1
  (K (.bool false) H1)
  (m_fieldfarelaw7_QuantStepttt K x0 x1 x2 H1)
theorem m_fieldfarelaw7_QuantSteptt_eq (K : AV → AH → Prop) (a : TE) (H : AH) : codeP PP CC (subC (bodyC PP 12) [1, 1]) (m_fieldfarelaw7_QuantStep_K K) a H = m_fieldfarelaw7_QuantSteptt K (a 0) (a 1) (a 2) (a 7) H :=
  have h1 : codeP PP CC (subC (bodyC PP 12) [1, 1]) (m_fieldfarelaw7_QuantStep_K K) a H = codeP PP CC (subC (bodyC PP 12) [1, 1, 0]) (exP (codeP PP CC (subC (bodyC PP 12) [1, 1, 1]) (m_fieldfarelaw7_QuantStep_K K)) (m_fieldfarelaw7_QuantStep_K K)) a H := by kernel_rfl
  have h2 : codeP PP CC (subC (bodyC PP 12) [1, 1, 0]) (exP (codeP PP CC (subC (bodyC PP 12) [1, 1, 1]) (m_fieldfarelaw7_QuantStep_K K)) (m_fieldfarelaw7_QuantStep_K K)) a H = codeP PP CC (subC (bodyC PP 12) [1, 1, 0]) (exP (fun (a : TE) (H : AH) => m_fieldfarelaw7_QuantStepttt K (a 0) (a 1) (a 2) H) (m_fieldfarelaw7_QuantStep_K K)) a H := congrArg (fun k : KE => codeP PP CC (subC (bodyC PP 12) [1, 1, 0]) (exP k (m_fieldfarelaw7_QuantStep_K K)) a H) (funext fun a => funext fun H => m_fieldfarelaw7_QuantStepttt_eq K a H)
  have h2b : codeP PP CC (subC (bodyC PP 12) [1, 1, 0]) (exP (fun (a : TE) (H : AH) => m_fieldfarelaw7_QuantStepttt K (a 0) (a 1) (a 2) H) (m_fieldfarelaw7_QuantStep_K K)) a H = codeP PP CC (subC (bodyC PP 12) [1, 1, 0]) (m_fieldfarelaw7_QuantSteptt_k K) a H := by kernel_rfl
  have h3 : codeP PP CC (subC (bodyC PP 12) [1, 1, 0]) (m_fieldfarelaw7_QuantSteptt_k K) a H = m_fieldfarelaw7_QuantSteptt K (a 0) (a 1) (a 2) (a 7) H := by kernel_rfl
  ((h1.trans h2).trans h2b).trans h3
abbrev m_fieldfarelaw7_QuantStept_k (K : AV → AH → Prop) : KP := exP (fun (a : TE) (H : AH) => m_fieldfarelaw7_QuantSteptt K (a 0) (a 1) (a 2) (a 7) H) (m_fieldfarelaw7_QuantStep_K K)
def m_fieldfarelaw7_QuantStept (K : AV → AH → Prop) (x0 x1 x2 : AV) (H : AH) : Prop :=
  outP CC H (some (.enter 14 [])) fun v1 H1 =>
  m_fieldfarelaw7_QuantSteptt K x0 x1 x2 v1 H1
theorem m_fieldfarelaw7_QuantStept_eq (K : AV → AH → Prop) (a : TE) (H : AH) : codeP PP CC (subC (bodyC PP 12) [1]) (m_fieldfarelaw7_QuantStep_K K) a H = m_fieldfarelaw7_QuantStept K (a 0) (a 1) (a 2) H :=
  have h1 : codeP PP CC (subC (bodyC PP 12) [1]) (m_fieldfarelaw7_QuantStep_K K) a H = codeP PP CC (subC (bodyC PP 12) [1, 0]) (exP (codeP PP CC (subC (bodyC PP 12) [1, 1]) (m_fieldfarelaw7_QuantStep_K K)) (m_fieldfarelaw7_QuantStep_K K)) a H := by kernel_rfl
  have h2 : codeP PP CC (subC (bodyC PP 12) [1, 0]) (exP (codeP PP CC (subC (bodyC PP 12) [1, 1]) (m_fieldfarelaw7_QuantStep_K K)) (m_fieldfarelaw7_QuantStep_K K)) a H = codeP PP CC (subC (bodyC PP 12) [1, 0]) (exP (fun (a : TE) (H : AH) => m_fieldfarelaw7_QuantSteptt K (a 0) (a 1) (a 2) (a 7) H) (m_fieldfarelaw7_QuantStep_K K)) a H := congrArg (fun k : KE => codeP PP CC (subC (bodyC PP 12) [1, 0]) (exP k (m_fieldfarelaw7_QuantStep_K K)) a H) (funext fun a => funext fun H => m_fieldfarelaw7_QuantSteptt_eq K a H)
  have h2b : codeP PP CC (subC (bodyC PP 12) [1, 0]) (exP (fun (a : TE) (H : AH) => m_fieldfarelaw7_QuantSteptt K (a 0) (a 1) (a 2) (a 7) H) (m_fieldfarelaw7_QuantStep_K K)) a H = codeP PP CC (subC (bodyC PP 12) [1, 0]) (m_fieldfarelaw7_QuantStept_k K) a H := by kernel_rfl
  have h3 : codeP PP CC (subC (bodyC PP 12) [1, 0]) (m_fieldfarelaw7_QuantStept_k K) a H = m_fieldfarelaw7_QuantStept K (a 0) (a 1) (a 2) H := by kernel_rfl
  ((h1.trans h2).trans h2b).trans h3
abbrev m_fieldfarelaw7_QuantStep_k (K : AV → AH → Prop) : KP := exP (fun (a : TE) (H : AH) => m_fieldfarelaw7_QuantStept K (a 0) (a 1) (a 2) H) (m_fieldfarelaw7_QuantStep_K K)
def m_fieldfarelaw7_QuantStep (K : AV → AH → Prop) (x0 x1 x2 : AV) (H : AH) : Prop :=
  m_fieldfarelaw7_QuantStept K x0 x1 x2 H
theorem m_fieldfarelaw7_QuantStep_eq (K : AV → AH → Prop) (a : TE) (H : AH) : codeP PP CC (subC (bodyC PP 12) []) (m_fieldfarelaw7_QuantStep_K K) a H = m_fieldfarelaw7_QuantStep K (a 0) (a 1) (a 2) H :=
  have h1 : codeP PP CC (subC (bodyC PP 12) []) (m_fieldfarelaw7_QuantStep_K K) a H = codeP PP CC (subC (bodyC PP 12) [0]) (exP (codeP PP CC (subC (bodyC PP 12) [1]) (m_fieldfarelaw7_QuantStep_K K)) (m_fieldfarelaw7_QuantStep_K K)) a H := by kernel_rfl
  have h2 : codeP PP CC (subC (bodyC PP 12) [0]) (exP (codeP PP CC (subC (bodyC PP 12) [1]) (m_fieldfarelaw7_QuantStep_K K)) (m_fieldfarelaw7_QuantStep_K K)) a H = codeP PP CC (subC (bodyC PP 12) [0]) (exP (fun (a : TE) (H : AH) => m_fieldfarelaw7_QuantStept K (a 0) (a 1) (a 2) H) (m_fieldfarelaw7_QuantStep_K K)) a H := congrArg (fun k : KE => codeP PP CC (subC (bodyC PP 12) [0]) (exP k (m_fieldfarelaw7_QuantStep_K K)) a H) (funext fun a => funext fun H => m_fieldfarelaw7_QuantStept_eq K a H)
  have h2b : codeP PP CC (subC (bodyC PP 12) [0]) (exP (fun (a : TE) (H : AH) => m_fieldfarelaw7_QuantStept K (a 0) (a 1) (a 2) H) (m_fieldfarelaw7_QuantStep_K K)) a H = codeP PP CC (subC (bodyC PP 12) [0]) (m_fieldfarelaw7_QuantStep_k K) a H := by kernel_rfl
  have h3 : codeP PP CC (subC (bodyC PP 12) [0]) (m_fieldfarelaw7_QuantStep_k K) a H = m_fieldfarelaw7_QuantStep K (a 0) (a 1) (a 2) H := by kernel_rfl
  ((h1.trans h2).trans h2b).trans h3
theorem m_fieldfarelaw7_QuantStep_ok (x0 x1 x2 : AV) (H : AH) (K : AV → AH → Prop) (h : m_fieldfarelaw7_QuantStep K x0 x1 x2 H) : CC.call 12 [x0, x1, x2] H K :=
  have h1 : funP PP CC 12 [x0, x1, x2] H K = codeP PP CC (subC (bodyC PP 12) []) (m_fieldfarelaw7_QuantStep_K K) (argE [x0, x1, x2]) H := by kernel_rfl
  have h2 : m_fieldfarelaw7_QuantStep K (argE [x0, x1, x2] 0) (argE [x0, x1, x2] 1) (argE [x0, x1, x2] 2) H = m_fieldfarelaw7_QuantStep K x0 x1 x2 H := by kernel_rfl
  funP_ok (P := PP) (by kernel_rfl) (by kernel_rfl) ((h1.trans ((m_fieldfarelaw7_QuantStep_eq K (argE [x0, x1, x2]) H).trans h2)).mpr h)

end
end Go.Ab
