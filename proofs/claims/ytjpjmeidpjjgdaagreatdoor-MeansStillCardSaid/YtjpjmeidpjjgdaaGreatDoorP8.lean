/- What functions do, said as what the evaluator does. Printed by a program. -/
import Derived.Test.YtjpjmeidpjjgdaaGreatDoorBeg
import Derived.Test.YtjpjmeidpjjgdaaGreatDoorEv3
namespace Go.Ab
noncomputable section
open Go.Proofs
set_option maxRecDepth 100000



/-! 8: fieldfare/fieldfarelaw7.MeansNear -/
abbrev m_fieldfarelaw7_MeansNear_K (K : AV → AH → Prop) : KP := finP PP (resC PP 8) K
abbrev m_fieldfarelaw7_MeansNearttttttttttt_k (K : AV → AH → Prop) : KP := exP (codeP PP CC (subC (bodyC PP 8) [1, 1, 1, 1, 1, 1, 1, 1, 1, 1, 1, 1]) (m_fieldfarelaw7_MeansNear_K K)) (m_fieldfarelaw7_MeansNear_K K)
abbrev m_fieldfarelaw7_MeansNeartttttttttttht_k (K : AV → AH → Prop) : KP := blockP 0 (m_fieldfarelaw7_MeansNearttttttttttt_k K)
abbrev m_fieldfarelaw7_MeansNearttttttttttthtb_k (K : AV → AH → Prop) (r0 : (AV × AV × AV × AV × AV × AV × AV × AV) → AH → Prop) : KP := exP (fun (a : TE) (H : AH) => r0 (a 0, a 1, a 6, a 7, a 8, a 9, a 55, a 56) H) (m_fieldfarelaw7_MeansNeartttttttttttht_k K)
def m_fieldfarelaw7_MeansNearttttttttttthtbl (K : AV → AH → Prop) (r0 : (AV × AV × AV × AV × AV × AV × AV × AV) → AH → Prop) (x0 x1 x6 x7 x8 x9 x55 x56 : AV) (H : AH) : Prop :=
  outP CC H (w_int .lss H x56 x55) fun v1 H1 =>
  condP v1
  (outP CC H1 (w_indexAddr (.sl 1) H1 x0 x56) fun v2 H2 =>
  outP CC H2 (w_load none H2 v2) fun v3 H3 =>
  outP CC H3 (some (.enter 31 [(.int .i64 1), v3, x1])) fun v4 H4 =>
  outP CC H4 (w_int .lss H4 v4 x8) fun v5 H5 =>
  guardP (boolIs false v5) H5 (outP CC H5 (some (.val v4 H5))) fun v6 H6 =>
  guardP (boolIs false v5) H6 (outP CC H6 (some (.val x8 H6))) fun v7 H7 =>
  guardP (boolIs false v5) H7 (outP CC H7 (w_int .eql H7 v6 v7)) fun v8 H8 =>
  guardP (boolIs false v5) H8 (outP CC H8 (some (.val v8 H8))) fun v9 H9 =>
  guardP (boolIs true v9) H9 (outP CC H9 (some (.val x56 H9))) fun v10 H10 =>
  guardP (boolIs true v9) H10 (outP CC H10 (some (.val x6 H10))) fun v11 H11 =>
  guardP (boolIs true v9) H11 (outP CC H11 (w_int .lss H11 v10 v11)) fun v12 H12 =>
  guardP (boolIs false v5) H12 (outP CC H12 (w_pick H12 v9 v12 (.bool false))) fun v13 H13 =>
  outP CC H13 (w_pick H13 v5 (.bool true) v13) fun v14 H14 =>
  guardP (boolIs false v14) H14 (outP CC H14 (some (.val x7 H14))) fun v15 H15 =>
  guardP (boolIs false v14) H15 (outP CC H15 (some (.val x56 H15))) fun v16 H16 =>
  guardP (boolIs false v14) H16 (outP CC H16 (w_indexAddr (.sl 1) H16 v15 v16)) fun v17 H17 =>
  guardP (boolIs false v14) H17 (outP CC H17 (w_load none H17 v17)) fun v18 H18 =>
  guardP (boolIs false v14) H18 (outP CC H18 (w_int .lss H18 v18 (.int .i64 0))) fun v19 H19 =>
  outP CC H19 (w_pick H19 v14 (.bool true) v19) fun v20 H20 =>
  guardP (boolIs false v20) H20 (outP CC H20 (some (.val x7 H20))) fun v21 H21 =>
  guardP (boolIs false v20) H21 (outP CC H21 (some (.val x56 H21))) fun v22 H22 =>
  guardP (boolIs false v20) H22 (outP CC H22 (w_indexAddr (.sl 1) H22 v21 v22)) fun v23 H23 =>
  guardP (boolIs false v20) H23 (outP CC H23 (w_load none H23 v23)) fun v24 H24 =>
  guardP (boolIs false v20) H24 (outP CC H24 (some (.val x0 H24))) fun v25 H25 =>
  guardP (boolIs false v20) H25 (outP CC H25 (w_len PP 36 H25 v25)) fun v26 H26 =>
  guardP (boolIs false v20) H26 (outP CC H26 (w_int .geq H26 v24 v26)) fun v27 H27 =>
  outP CC H27 (w_pick H27 v20 (.bool true) v27) fun v28 H28 =>
  guardP (boolIs false v28) H28 (outP CC H28 (some (.val x9 H28))) fun v29 H29 =>
  guardP (boolIs false v28) H29 (outP CC H29 (some (.val x7 H29))) fun v30 H30 =>
  guardP (boolIs false v28) H30 (outP CC H30 (some (.val x56 H30))) fun v31 H31 =>
  guardP (boolIs false v28) H31 (outP CC H31 (w_indexAddr (.sl 1) H31 v30 v31)) fun v32 H32 =>
  guardP (boolIs false v28) H32 (outP CC H32 (w_load none H32 v32)) fun v33 H33 =>
  guardP (boolIs false v28) H33 (outP CC H33 (w_lookup PP 3 4 false H33 v29 v33)) fun v34 H34 =>
  outP CC H34 (w_pick H34 v28 (.bool true) v34) fun v35 H35 =>
  condP v35
  (K (.bool false) H35)
  (outP CC H35 (w_indexAddr (.sl 1) H35 x7 x56) fun v36 H36 =>
  outP CC H36 (w_load none H36 v36) fun v37 H37 =>
  outP CC H37 (w_mapUpdate PP 3 4 H37 x9 v37 (.bool true)) fun _v38 H38 =>
  outP CC H38 (w_int .gtr H38 x56 (.int .i64 0)) fun v39 H39 =>
  condP v39
  (outP CC H39 (w_int .sub H39 x56 (.int .i64 1)) fun v40 H40 =>
  outP CC H40 (w_indexAddr (.sl 1) H40 x7 v40) fun v41 H41 =>
  outP CC H41 (w_load none H41 v41) fun v42 H42 =>
  outP CC H42 (w_indexAddr (.sl 1) H42 x0 v42) fun v43 H43 =>
  outP CC H43 (w_load none H43 v43) fun v44 H44 =>
  outP CC H44 (w_indexAddr (.sl 1) H44 x7 x56) fun v45 H45 =>
  outP CC H45 (w_load none H45 v45) fun v46 H46 =>
  outP CC H46 (w_indexAddr (.sl 1) H46 x0 v46) fun v47 H47 =>
  outP CC H47 (w_load none H47 v47) fun v48 H48 =>
  outP CC H48 (some (.enter 31 [(.int .i64 1), v44, x1])) fun v49 H49 =>
  ckP (reC true (w_load none H49 v45) v46) <|
  ckP (reC true (w_load none H49 v47) v48) <|
  outP CC H49 (some (.enter 31 [(.int .i64 1), v48, x1])) fun v50 H50 =>
  outP CC H50 (w_int .gtr H50 v49 v50) fun v51 H51 =>
  guardP (boolIs false v51) H51 (outP CC H51 (some (.val v49 H51))) fun v52 H52 =>
  guardP (boolIs false v51) H52 (outP CC H52 (some (.val v50 H52))) fun v53 H53 =>
  guardP (boolIs false v51) H53 (outP CC H53 (w_int .eql H53 v52 v53)) fun v54 H54 =>
  guardP (boolIs false v51) H54 (outP CC H54 (some (.val v54 H54))) fun v55 H55 =>
  guardP (boolIs true v55) H55 (outP CC H55 (some (.val x7 H55))) fun v56 H56 =>
  guardP (boolIs true v55) H56 (outP CC H56 (some (.val x56 H56))) fun v57 H57 =>
  guardP (boolIs true v55) H57 (outP CC H57 (w_int .sub H57 v57 (.int .i64 1))) fun v58 H58 =>
  guardP (boolIs true v55) H58 (outP CC H58 (w_indexAddr (.sl 1) H58 v56 v58)) fun v59 H59 =>
  guardP (boolIs true v55) H59 (outP CC H59 (w_load none H59 v59)) fun v60 H60 =>
  guardP (boolIs true v55) H60 (outP CC H60 (some (.val x7 H60))) fun v61 H61 =>
  guardP (boolIs true v55) H61 (outP CC H61 (some (.val x56 H61))) fun v62 H62 =>
  guardP (boolIs true v55) H62 (outP CC H62 (w_indexAddr (.sl 1) H62 v61 v62)) fun v63 H63 =>
  guardP (boolIs true v55) H63 (outP CC H63 (w_load none H63 v63)) fun v64 H64 =>
  guardP (boolIs true v55) H64 (outP CC H64 (w_int .gtr H64 v60 v64)) fun v65 H65 =>
  guardP (boolIs false v51) H65 (outP CC H65 (w_pick H65 v55 v65 (.bool false))) fun v66 H66 =>
  outP CC H66 (w_pick H66 v51 (.bool true) v66) fun v67 H67 =>
  condP v67
  (K (.bool false) H67)
  (outP CC H67 (w_int .add H67 x56 (.int .i64 1)) fun v68 H68 =>
  r0 (x0, x1, x6, x7, x8, x9, x55, v68) H68))
  (outP CC H39 (w_int .add H39 x56 (.int .i64 1)) fun v69 H69 =>
  r0 (x0, x1, x6, x7, x8, x9, x55, v69) H69)))
  (K (.bool true) H1)
theorem m_fieldfarelaw7_MeansNearttttttttttthtbl_eq (K : AV → AH → Prop) (r0 : (AV × AV × AV × AV × AV × AV × AV × AV) → AH → Prop) (a : TE) (H : AH) : codeP PP CC (subC (bodyC PP 8) [1, 1, 1, 1, 1, 1, 1, 1, 1, 1, 1, 0, 1, 0, 0]) (m_fieldfarelaw7_MeansNearttttttttttthtb_k K r0) a H = m_fieldfarelaw7_MeansNearttttttttttthtbl K r0 (a 0) (a 1) (a 6) (a 7) (a 8) (a 9) (a 55) (a 56) H :=
  by kernel_rfl
def m_fieldfarelaw7_MeansNearttttttttttthtb (K : AV → AH → Prop) (x0 x1 x6 x7 x8 x9 x55 x56 : AV) (H : AH) : Prop :=
  loopP (fun (r0 : (AV × AV × AV × AV × AV × AV × AV × AV) → AH → Prop) (s : (AV × AV × AV × AV × AV × AV × AV × AV)) (H : AH) => m_fieldfarelaw7_MeansNearttttttttttthtbl K r0 s.1 s.2.1 s.2.2.1 s.2.2.2.1 s.2.2.2.2.1 s.2.2.2.2.2.1 s.2.2.2.2.2.2.1 s.2.2.2.2.2.2.2 H) (x0, x1, x6, x7, x8, x9, x55, x56) H
theorem m_fieldfarelaw7_MeansNearttttttttttthtb_eq (K : AV → AH → Prop) (a : TE) (H : AH) : codeP PP CC (subC (bodyC PP 8) [1, 1, 1, 1, 1, 1, 1, 1, 1, 1, 1, 0, 1, 0]) (m_fieldfarelaw7_MeansNeartttttttttttht_k K) a H = m_fieldfarelaw7_MeansNearttttttttttthtb K (a 0) (a 1) (a 6) (a 7) (a 8) (a 9) (a 55) (a 56) H :=
  have h1 : codeP PP CC (subC (bodyC PP 8) [1, 1, 1, 1, 1, 1, 1, 1, 1, 1, 1, 0, 1, 0]) (m_fieldfarelaw7_MeansNeartttttttttttht_k K) a H = loopP (fun (rec : KE) => codeP PP CC (subC (bodyC PP 8) [1, 1, 1, 1, 1, 1, 1, 1, 1, 1, 1, 0, 1, 0, 0]) (exP rec (m_fieldfarelaw7_MeansNeartttttttttttht_k K))) a H := by kernel_rfl
  have h2 := loopP_iso (F := fun (rec : KE) => codeP PP CC (subC (bodyC PP 8) [1, 1, 1, 1, 1, 1, 1, 1, 1, 1, 1, 0, 1, 0, 0]) (exP rec (m_fieldfarelaw7_MeansNeartttttttttttht_k K))) (S := (AV × AV × AV × AV × AV × AV × AV × AV)) (fun a => (a 0, a 1, a 6, a 7, a 8, a 9, a 55, a 56)) (fun (r0 : (AV × AV × AV × AV × AV × AV × AV × AV) → AH → Prop) (s : (AV × AV × AV × AV × AV × AV × AV × AV)) (H : AH) => m_fieldfarelaw7_MeansNearttttttttttthtbl K r0 s.1 s.2.1 s.2.2.1 s.2.2.2.1 s.2.2.2.2.1 s.2.2.2.2.2.1 s.2.2.2.2.2.2.1 s.2.2.2.2.2.2.2 H) (fun (r0 : (AV × AV × AV × AV × AV × AV × AV × AV) → AH → Prop) (a : TE) (H : AH) => (show codeP PP CC (subC (bodyC PP 8) [1, 1, 1, 1, 1, 1, 1, 1, 1, 1, 1, 0, 1, 0, 0]) (exP (fun (a : TE) (H : AH) => r0 (a 0, a 1, a 6, a 7, a 8, a 9, a 55, a 56) H) (m_fieldfarelaw7_MeansNeartttttttttttht_k K)) a H = codeP PP CC (subC (bodyC PP 8) [1, 1, 1, 1, 1, 1, 1, 1, 1, 1, 1, 0, 1, 0, 0]) (m_fieldfarelaw7_MeansNearttttttttttthtb_k K r0) a H from by kernel_rfl).trans (m_fieldfarelaw7_MeansNearttttttttttthtbl_eq K r0 a H)) a H
  h1.trans h2
theorem m_fieldfarelaw7_MeansNeartttttttttttht_eq (K : AV → AH → Prop) (a : TE) (H : AH) : codeP PP CC (subC (bodyC PP 8) [1, 1, 1, 1, 1, 1, 1, 1, 1, 1, 1, 0, 1]) (m_fieldfarelaw7_MeansNearttttttttttt_k K) a H = m_fieldfarelaw7_MeansNearttttttttttthtb K (a 0) (a 1) (a 6) (a 7) (a 8) (a 9) (a 55) (a 56) H :=
  have h1 : codeP PP CC (subC (bodyC PP 8) [1, 1, 1, 1, 1, 1, 1, 1, 1, 1, 1, 0, 1]) (m_fieldfarelaw7_MeansNearttttttttttt_k K) a H = codeP PP CC (subC (bodyC PP 8) [1, 1, 1, 1, 1, 1, 1, 1, 1, 1, 1, 0, 1, 0]) (m_fieldfarelaw7_MeansNeartttttttttttht_k K) a H := by kernel_rfl
  h1.trans (m_fieldfarelaw7_MeansNearttttttttttthtb_eq K a H)
abbrev m_fieldfarelaw7_MeansNearttttttttttth_k (K : AV → AH → Prop) : KP := exP (fun (a : TE) (H : AH) => m_fieldfarelaw7_MeansNearttttttttttthtb K (a 0) (a 1) (a 6) (a 7) (a 8) (a 9) (a 55) (a 56) H) (m_fieldfarelaw7_MeansNearttttttttttt_k K)
def m_fieldfarelaw7_MeansNearttttttttttth (K : AV → AH → Prop) (x0 x1 x6 x7 x8 x9 : AV) (H : AH) : Prop :=
  outP CC H (w_len PP 36 H x0) fun v1 H1 =>
  m_fieldfarelaw7_MeansNearttttttttttthtb K x0 x1 x6 x7 x8 x9 v1 (.int .i64 0) H1
theorem m_fieldfarelaw7_MeansNearttttttttttth_eq (K : AV → AH → Prop) (a : TE) (H : AH) : codeP PP CC (subC (bodyC PP 8) [1, 1, 1, 1, 1, 1, 1, 1, 1, 1, 1, 0]) (m_fieldfarelaw7_MeansNearttttttttttt_k K) a H = m_fieldfarelaw7_MeansNearttttttttttth K (a 0) (a 1) (a 6) (a 7) (a 8) (a 9) H :=
  have h1 : codeP PP CC (subC (bodyC PP 8) [1, 1, 1, 1, 1, 1, 1, 1, 1, 1, 1, 0]) (m_fieldfarelaw7_MeansNearttttttttttt_k K) a H = codeP PP CC (subC (bodyC PP 8) [1, 1, 1, 1, 1, 1, 1, 1, 1, 1, 1, 0, 0]) (exP (codeP PP CC (subC (bodyC PP 8) [1, 1, 1, 1, 1, 1, 1, 1, 1, 1, 1, 0, 1]) (m_fieldfarelaw7_MeansNearttttttttttt_k K)) (m_fieldfarelaw7_MeansNearttttttttttt_k K)) a H := by kernel_rfl
  have h2 : codeP PP CC (subC (bodyC PP 8) [1, 1, 1, 1, 1, 1, 1, 1, 1, 1, 1, 0, 0]) (exP (codeP PP CC (subC (bodyC PP 8) [1, 1, 1, 1, 1, 1, 1, 1, 1, 1, 1, 0, 1]) (m_fieldfarelaw7_MeansNearttttttttttt_k K)) (m_fieldfarelaw7_MeansNearttttttttttt_k K)) a H = codeP PP CC (subC (bodyC PP 8) [1, 1, 1, 1, 1, 1, 1, 1, 1, 1, 1, 0, 0]) (exP (fun (a : TE) (H : AH) => m_fieldfarelaw7_MeansNearttttttttttthtb K (a 0) (a 1) (a 6) (a 7) (a 8) (a 9) (a 55) (a 56) H) (m_fieldfarelaw7_MeansNearttttttttttt_k K)) a H := congrArg (fun k : KE => codeP PP CC (subC (bodyC PP 8) [1, 1, 1, 1, 1, 1, 1, 1, 1, 1, 1, 0, 0]) (exP k (m_fieldfarelaw7_MeansNearttttttttttt_k K)) a H) (funext fun a => funext fun H => m_fieldfarelaw7_MeansNeartttttttttttht_eq K a H)
  have h2b : codeP PP CC (subC (bodyC PP 8) [1, 1, 1, 1, 1, 1, 1, 1, 1, 1, 1, 0, 0]) (exP (fun (a : TE) (H : AH) => m_fieldfarelaw7_MeansNearttttttttttthtb K (a 0) (a 1) (a 6) (a 7) (a 8) (a 9) (a 55) (a 56) H) (m_fieldfarelaw7_MeansNearttttttttttt_k K)) a H = codeP PP CC (subC (bodyC PP 8) [1, 1, 1, 1, 1, 1, 1, 1, 1, 1, 1, 0, 0]) (m_fieldfarelaw7_MeansNearttttttttttth_k K) a H := by kernel_rfl
  have h3 : codeP PP CC (subC (bodyC PP 8) [1, 1, 1, 1, 1, 1, 1, 1, 1, 1, 1, 0, 0]) (m_fieldfarelaw7_MeansNearttttttttttth_k K) a H = m_fieldfarelaw7_MeansNearttttttttttth K (a 0) (a 1) (a 6) (a 7) (a 8) (a 9) H := by kernel_rfl
  ((h1.trans h2).trans h2b).trans h3
theorem m_fieldfarelaw7_MeansNearttttttttttt_eq (K : AV → AH → Prop) (a : TE) (H : AH) : codeP PP CC (subC (bodyC PP 8) [1, 1, 1, 1, 1, 1, 1, 1, 1, 1, 1]) (m_fieldfarelaw7_MeansNear_K K) a H = m_fieldfarelaw7_MeansNearttttttttttth K (a 0) (a 1) (a 6) (a 7) (a 8) (a 9) H :=
  have h1 : codeP PP CC (subC (bodyC PP 8) [1, 1, 1, 1, 1, 1, 1, 1, 1, 1, 1]) (m_fieldfarelaw7_MeansNear_K K) a H = codeP PP CC (subC (bodyC PP 8) [1, 1, 1, 1, 1, 1, 1, 1, 1, 1, 1, 0]) (m_fieldfarelaw7_MeansNearttttttttttt_k K) a H := by kernel_rfl
  h1.trans (m_fieldfarelaw7_MeansNearttttttttttth_eq K a H)
abbrev m_fieldfarelaw7_MeansNeartttttttttt_k (K : AV → AH → Prop) : KP := exP (fun (a : TE) (H : AH) => m_fieldfarelaw7_MeansNearttttttttttth K (a 0) (a 1) (a 6) (a 7) (a 8) (a 9) H) (m_fieldfarelaw7_MeansNear_K K)
def m_fieldfarelaw7_MeansNeartttttttttt (K : AV → AH → Prop) (x0 x1 x6 x7 x8 : AV) (H : AH) : Prop :=
  outP CC H (w_makeMap H none) fun v1 H1 =>
  m_fieldfarelaw7_MeansNearttttttttttth K x0 x1 x6 x7 x8 v1 H1
theorem m_fieldfarelaw7_MeansNeartttttttttt_eq (K : AV → AH → Prop) (a : TE) (H : AH) : codeP PP CC (subC (bodyC PP 8) [1, 1, 1, 1, 1, 1, 1, 1, 1, 1]) (m_fieldfarelaw7_MeansNear_K K) a H = m_fieldfarelaw7_MeansNeartttttttttt K (a 0) (a 1) (a 6) (a 7) (a 8) H :=
  have h1 : codeP PP CC (subC (bodyC PP 8) [1, 1, 1, 1, 1, 1, 1, 1, 1, 1]) (m_fieldfarelaw7_MeansNear_K K) a H = codeP PP CC (subC (bodyC PP 8) [1, 1, 1, 1, 1, 1, 1, 1, 1, 1, 0]) (exP (codeP PP CC (subC (bodyC PP 8) [1, 1, 1, 1, 1, 1, 1, 1, 1, 1, 1]) (m_fieldfarelaw7_MeansNear_K K)) (m_fieldfarelaw7_MeansNear_K K)) a H := by kernel_rfl
  have h2 : codeP PP CC (subC (bodyC PP 8) [1, 1, 1, 1, 1, 1, 1, 1, 1, 1, 0]) (exP (codeP PP CC (subC (bodyC PP 8) [1, 1, 1, 1, 1, 1, 1, 1, 1, 1, 1]) (m_fieldfarelaw7_MeansNear_K K)) (m_fieldfarelaw7_MeansNear_K K)) a H = codeP PP CC (subC (bodyC PP 8) [1, 1, 1, 1, 1, 1, 1, 1, 1, 1, 0]) (exP (fun (a : TE) (H : AH) => m_fieldfarelaw7_MeansNearttttttttttth K (a 0) (a 1) (a 6) (a 7) (a 8) (a 9) H) (m_fieldfarelaw7_MeansNear_K K)) a H := congrArg (fun k : KE => codeP PP CC (subC (bodyC PP 8) [1, 1, 1, 1, 1, 1, 1, 1, 1, 1, 0]) (exP k (m_fieldfarelaw7_MeansNear_K K)) a H) (funext fun a => funext fun H => m_fieldfarelaw7_MeansNearttttttttttt_eq K a H)
  have h2b : codeP PP CC (subC (bodyC PP 8) [1, 1, 1, 1, 1, 1, 1, 1, 1, 1, 0]) (exP (fun (a : TE) (H : AH) => m_fieldfarelaw7_MeansNearttttttttttth K (a 0) (a 1) (a 6) (a 7) (a 8) (a 9) H) (m_fieldfarelaw7_MeansNear_K K)) a H = codeP PP CC (subC (bodyC PP 8) [1, 1, 1, 1, 1, 1, 1, 1, 1, 1, 0]) (m_fieldfarelaw7_MeansNeartttttttttt_k K) a H := by kernel_rfl
  have h3 : codeP PP CC (subC (bodyC PP 8) [1, 1, 1, 1, 1, 1, 1, 1, 1, 1, 0]) (m_fieldfarelaw7_MeansNeartttttttttt_k K) a H = m_fieldfarelaw7_MeansNeartttttttttt K (a 0) (a 1) (a 6) (a 7) (a 8) H := by kernel_rfl
  ((h1.trans h2).trans h2b).trans h3
abbrev m_fieldfarelaw7_MeansNearttttttttt_k (K : AV → AH → Prop) : KP := exP (fun (a : TE) (H : AH) => m_fieldfarelaw7_MeansNeartttttttttt K (a 0) (a 1) (a 6) (a 7) (a 8) H) (m_fieldfarelaw7_MeansNear_K K)
def m_fieldfarelaw7_MeansNearttttttttt (K : AV → AH → Prop) (x0 x1 x6 x7 : AV) (H : AH) : Prop :=
  outP CC H (w_indexAddr (.sl 1) H x0 x6) fun v1 H1 =>
  outP CC H1 (w_load none H1 v1) fun v2 H2 =>
  outP CC H2 (some (.enter 31 [(.int .i64 1), v2, x1])) fun v3 H3 =>
  m_fieldfarelaw7_MeansNeartttttttttt K x0 x1 x6 x7 v3 H3
theorem m_fieldfarelaw7_MeansNearttttttttt_eq (K : AV → AH → Prop) (a : TE) (H : AH) : codeP PP CC (subC (bodyC PP 8) [1, 1, 1, 1, 1, 1, 1, 1, 1]) (m_fieldfarelaw7_MeansNear_K K) a H = m_fieldfarelaw7_MeansNearttttttttt K (a 0) (a 1) (a 6) (a 7) H :=
  have h1 : codeP PP CC (subC (bodyC PP 8) [1, 1, 1, 1, 1, 1, 1, 1, 1]) (m_fieldfarelaw7_MeansNear_K K) a H = codeP PP CC (subC (bodyC PP 8) [1, 1, 1, 1, 1, 1, 1, 1, 1, 0]) (exP (codeP PP CC (subC (bodyC PP 8) [1, 1, 1, 1, 1, 1, 1, 1, 1, 1]) (m_fieldfarelaw7_MeansNear_K K)) (m_fieldfarelaw7_MeansNear_K K)) a H := by kernel_rfl
  have h2 : codeP PP CC (subC (bodyC PP 8) [1, 1, 1, 1, 1, 1, 1, 1, 1, 0]) (exP (codeP PP CC (subC (bodyC PP 8) [1, 1, 1, 1, 1, 1, 1, 1, 1, 1]) (m_fieldfarelaw7_MeansNear_K K)) (m_fieldfarelaw7_MeansNear_K K)) a H = codeP PP CC (subC (bodyC PP 8) [1, 1, 1, 1, 1, 1, 1, 1, 1, 0]) (exP (fun (a : TE) (H : AH) => m_fieldfarelaw7_MeansNeartttttttttt K (a 0) (a 1) (a 6) (a 7) (a 8) H) (m_fieldfarelaw7_MeansNear_K K)) a H := congrArg (fun k : KE => codeP PP CC (subC (bodyC PP 8) [1, 1, 1, 1, 1, 1, 1, 1, 1, 0]) (exP k (m_fieldfarelaw7_MeansNear_K K)) a H) (funext fun a => funext fun H => m_fieldfarelaw7_MeansNeartttttttttt_eq K a H)
  have h2b : codeP PP CC (subC (bodyC PP 8) [1, 1, 1, 1, 1, 1, 1, 1, 1, 0]) (exP (fun (a : TE) (H : AH) => m_fieldfarelaw7_MeansNeartttttttttt K (a 0) (a 1) (a 6) (a 7) (a 8) H) (m_fieldfarelaw7_MeansNear_K K)) a H = codeP PP CC (subC (bodyC PP 8) [1, 1, 1, 1, 1, 1, 1, 1, 1, 0]) (m_fieldfarelaw7_MeansNearttttttttt_k K) a H := by kernel_rfl
  have h3 : codeP PP CC (subC (bodyC PP 8) [1, 1, 1, 1, 1, 1, 1, 1, 1, 0]) (m_fieldfarelaw7_MeansNearttttttttt_k K) a H = m_fieldfarelaw7_MeansNearttttttttt K (a 0) (a 1) (a 6) (a 7) H := by kernel_rfl
  ((h1.trans h2).trans h2b).trans h3
abbrev m_fieldfarelaw7_MeansNeartttttttt_k (K : AV → AH → Prop) : KP := exP (fun (a : TE) (H : AH) => m_fieldfarelaw7_MeansNearttttttttt K (a 0) (a 1) (a 6) (a 7) H) (m_fieldfarelaw7_MeansNear_K K)
def m_fieldfarelaw7_MeansNeartttttttt (K : AV → AH → Prop) (x0 x1 x6 x7 : AV) (H : AH) : Prop :=
  outP CC H (w_int .lss H x6 (.int .i64 0)) fun v1 H1 =>
  guardP (boolIs false v1) H1 (outP CC H1 (some (.val x6 H1))) fun v2 H2 =>
  guardP (boolIs false v1) H2 (outP CC H2 (some (.val x0 H2))) fun v3 H3 =>
  guardP (boolIs false v1) H3 (outP CC H3 (w_len PP 36 H3 v3)) fun v4 H4 =>
  guardP (boolIs false v1) H4 (outP CC H4 (w_int .geq H4 v2 v4)) fun v5 H5 =>
  outP CC H5 (w_pick H5 v1 (.bool true) v5) fun v6 H6 =>
  guardP (boolIs false v6) H6 (outP CC H6 (some (.val x7 H6))) fun v7 H7 =>
  guardP (boolIs false v6) H7 (outP CC H7 (w_len PP 33 H7 v7)) fun v8 H8 =>
  guardP (boolIs false v6) H8 (outP CC H8 (some (.val x0 H8))) fun v9 H9 =>
  guardP (boolIs false v6) H9 (outP CC H9 (w_len PP 36 H9 v9)) fun v10 H10 =>
  guardP (boolIs false v6) H10 (outP CC H10 (w_int .neq H10 v8 v10)) fun v11 H11 =>
  outP CC H11 (w_pick H11 v6 (.bool true) v11) fun v12 H12 =>
  condP v12
  (K (.bool false) H12)
  (m_fieldfarelaw7_MeansNearttttttttt K x0 x1 x6 x7 H12)
theorem m_fieldfarelaw7_MeansNeartttttttt_eq (K : AV → AH → Prop) (a : TE) (H : AH) : codeP PP CC (subC (bodyC PP 8) [1, 1, 1, 1, 1, 1, 1, 1]) (m_fieldfarelaw7_MeansNear_K K) a H = m_fieldfarelaw7_MeansNeartttttttt K (a 0) (a 1) (a 6) (a 7) H :=
  have h1 : codeP PP CC (subC (bodyC PP 8) [1, 1, 1, 1, 1, 1, 1, 1]) (m_fieldfarelaw7_MeansNear_K K) a H = codeP PP CC (subC (bodyC PP 8) [1, 1, 1, 1, 1, 1, 1, 1, 0]) (exP (codeP PP CC (subC (bodyC PP 8) [1, 1, 1, 1, 1, 1, 1, 1, 1]) (m_fieldfarelaw7_MeansNear_K K)) (m_fieldfarelaw7_MeansNear_K K)) a H := by kernel_rfl
  have h2 : codeP PP CC (subC (bodyC PP 8) [1, 1, 1, 1, 1, 1, 1, 1, 0]) (exP (codeP PP CC (subC (bodyC PP 8) [1, 1, 1, 1, 1, 1, 1, 1, 1]) (m_fieldfarelaw7_MeansNear_K K)) (m_fieldfarelaw7_MeansNear_K K)) a H = codeP PP CC (subC (bodyC PP 8) [1, 1, 1, 1, 1, 1, 1, 1, 0]) (exP (fun (a : TE) (H : AH) => m_fieldfarelaw7_MeansNearttttttttt K (a 0) (a 1) (a 6) (a 7) H) (m_fieldfarelaw7_MeansNear_K K)) a H := congrArg (fun k : KE => codeP PP CC (subC (bodyC PP 8) [1, 1, 1, 1, 1, 1, 1, 1, 0]) (exP k (m_fieldfarelaw7_MeansNear_K K)) a H) (funext fun a => funext fun H => m_fieldfarelaw7_MeansNearttttttttt_eq K a H)
  have h2b : codeP PP CC (subC (bodyC PP 8) [1, 1, 1, 1, 1, 1, 1, 1, 0]) (exP (fun (a : TE) (H : AH) => m_fieldfarelaw7_MeansNearttttttttt K (a 0) (a 1) (a 6) (a 7) H) (m_fieldfarelaw7_MeansNear_K K)) a H = codeP PP CC (subC (bodyC PP 8) [1, 1, 1, 1, 1, 1, 1, 1, 0]) (m_fieldfarelaw7_MeansNeartttttttt_k K) a H := by kernel_rfl
  have h3 : codeP PP CC (subC (bodyC PP 8) [1, 1, 1, 1, 1, 1, 1, 1, 0]) (m_fieldfarelaw7_MeansNeartttttttt_k K) a H = m_fieldfarelaw7_MeansNeartttttttt K (a 0) (a 1) (a 6) (a 7) H := by kernel_rfl
  ((h1.trans h2).trans h2b).trans h3
abbrev m_fieldfarelaw7_MeansNearttttttt_k (K : AV → AH → Prop) : KP := exP (fun (a : TE) (H : AH) => m_fieldfarelaw7_MeansNeartttttttt K (a 0) (a 1) (a 6) (a 7) H) (m_fieldfarelaw7_MeansNear_K K)
def m_fieldfarelaw7_MeansNearttttttt (K : AV → AH → Prop) (x0 x1 x6 : AV) (H : AH) : Prop :=
  outP CC H (some (.enter 27 [x0, x1])) fun v1 H1 =>
  m_fieldfarelaw7_MeansNeartttttttt K x0 x1 x6 v1 H1
theorem m_fieldfarelaw7_MeansNearttttttt_eq (K : AV → AH → Prop) (a : TE) (H : AH) : codeP PP CC (subC (bodyC PP 8) [1, 1, 1, 1, 1, 1, 1]) (m_fieldfarelaw7_MeansNear_K K) a H = m_fieldfarelaw7_MeansNearttttttt K (a 0) (a 1) (a 6) H :=
  have h1 : codeP PP CC (subC (bodyC PP 8) [1, 1, 1, 1, 1, 1, 1]) (m_fieldfarelaw7_MeansNear_K K) a H = codeP PP CC (subC (bodyC PP 8) [1, 1, 1, 1, 1, 1, 1, 0]) (exP (codeP PP CC (subC (bodyC PP 8) [1, 1, 1, 1, 1, 1, 1, 1]) (m_fieldfarelaw7_MeansNear_K K)) (m_fieldfarelaw7_MeansNear_K K)) a H := by kernel_rfl
  have h2 : codeP PP CC (subC (bodyC PP 8) [1, 1, 1, 1, 1, 1, 1, 0]) (exP (codeP PP CC (subC (bodyC PP 8) [1, 1, 1, 1, 1, 1, 1, 1]) (m_fieldfarelaw7_MeansNear_K K)) (m_fieldfarelaw7_MeansNear_K K)) a H = codeP PP CC (subC (bodyC PP 8) [1, 1, 1, 1, 1, 1, 1, 0]) (exP (fun (a : TE) (H : AH) => m_fieldfarelaw7_MeansNeartttttttt K (a 0) (a 1) (a 6) (a 7) H) (m_fieldfarelaw7_MeansNear_K K)) a H := congrArg (fun k : KE => codeP PP CC (subC (bodyC PP 8) [1, 1, 1, 1, 1, 1, 1, 0]) (exP k (m_fieldfarelaw7_MeansNear_K K)) a H) (funext fun a => funext fun H => m_fieldfarelaw7_MeansNeartttttttt_eq K a H)
  have h2b : codeP PP CC (subC (bodyC PP 8) [1, 1, 1, 1, 1, 1, 1, 0]) (exP (fun (a : TE) (H : AH) => m_fieldfarelaw7_MeansNeartttttttt K (a 0) (a 1) (a 6) (a 7) H) (m_fieldfarelaw7_MeansNear_K K)) a H = codeP PP CC (subC (bodyC PP 8) [1, 1, 1, 1, 1, 1, 1, 0]) (m_fieldfarelaw7_MeansNearttttttt_k K) a H := by kernel_rfl
  have h3 : codeP PP CC (subC (bodyC PP 8) [1, 1, 1, 1, 1, 1, 1, 0]) (m_fieldfarelaw7_MeansNearttttttt_k K) a H = m_fieldfarelaw7_MeansNearttttttt K (a 0) (a 1) (a 6) H := by kernel_rfl
  ((h1.trans h2).trans h2b).trans h3
abbrev m_fieldfarelaw7_MeansNeartttttt_k (K : AV → AH → Prop) : KP := exP (fun (a : TE) (H : AH) => m_fieldfarelaw7_MeansNearttttttt K (a 0) (a 1) (a 6) H) (m_fieldfarelaw7_MeansNear_K K)
def m_fieldfarelaw7_MeansNeartttttt (K : AV → AH → Prop) (x0 x1 x6 : AV) (H : AH) : Prop :=
  outP CC H (w_len PP 36 H x0) fun v1 H1 =>
  outP CC H1 (w_int .eql H1 v1 (.int .i64 0)) fun v2 H2 =>
  condP v2
  (outP CC H2 (w_int .eql H2 x6 (.int .i64 (-1))) fun v3 H3 =>
  K v3 H3)
  (m_fieldfarelaw7_MeansNearttttttt K x0 x1 x6 H2)
theorem m_fieldfarelaw7_MeansNeartttttt_eq (K : AV → AH → Prop) (a : TE) (H : AH) : codeP PP CC (subC (bodyC PP 8) [1, 1, 1, 1, 1, 1]) (m_fieldfarelaw7_MeansNear_K K) a H = m_fieldfarelaw7_MeansNeartttttt K (a 0) (a 1) (a 6) H :=
  have h1 : codeP PP CC (subC (bodyC PP 8) [1, 1, 1, 1, 1, 1]) (m_fieldfarelaw7_MeansNear_K K) a H = codeP PP CC (subC (bodyC PP 8) [1, 1, 1, 1, 1, 1, 0]) (exP (codeP PP CC (subC (bodyC PP 8) [1, 1, 1, 1, 1, 1, 1]) (m_fieldfarelaw7_MeansNear_K K)) (m_fieldfarelaw7_MeansNear_K K)) a H := by kernel_rfl
  have h2 : codeP PP CC (subC (bodyC PP 8) [1, 1, 1, 1, 1, 1, 0]) (exP (codeP PP CC (subC (bodyC PP 8) [1, 1, 1, 1, 1, 1, 1]) (m_fieldfarelaw7_MeansNear_K K)) (m_fieldfarelaw7_MeansNear_K K)) a H = codeP PP CC (subC (bodyC PP 8) [1, 1, 1, 1, 1, 1, 0]) (exP (fun (a : TE) (H : AH) => m_fieldfarelaw7_MeansNearttttttt K (a 0) (a 1) (a 6) H) (m_fieldfarelaw7_MeansNear_K K)) a H := congrArg (fun k : KE => codeP PP CC (subC (bodyC PP 8) [1, 1, 1, 1, 1, 1, 0]) (exP k (m_fieldfarelaw7_MeansNear_K K)) a H) (funext fun a => funext fun H => m_fieldfarelaw7_MeansNearttttttt_eq K a H)
  have h2b : codeP PP CC (subC (bodyC PP 8) [1, 1, 1, 1, 1, 1, 0]) (exP (fun (a : TE) (H : AH) => m_fieldfarelaw7_MeansNearttttttt K (a 0) (a 1) (a 6) H) (m_fieldfarelaw7_MeansNear_K K)) a H = codeP PP CC (subC (bodyC PP 8) [1, 1, 1, 1, 1, 1, 0]) (m_fieldfarelaw7_MeansNeartttttt_k K) a H := by kernel_rfl
  have h3 : codeP PP CC (subC (bodyC PP 8) [1, 1, 1, 1, 1, 1, 0]) (m_fieldfarelaw7_MeansNeartttttt_k K) a H = m_fieldfarelaw7_MeansNeartttttt K (a 0) (a 1) (a 6) H := by kernel_rfl
  ((h1.trans h2).trans h2b).trans h3
abbrev m_fieldfarelaw7_MeansNearttttt_k (K : AV → AH → Prop) : KP := exP (fun (a : TE) (H : AH) => m_fieldfarelaw7_MeansNeartttttt K (a 0) (a 1) (a 6) H) (m_fieldfarelaw7_MeansNear_K K)
def m_fieldfarelaw7_MeansNearttttt (K : AV → AH → Prop) (x0 x1 : AV) (H : AH) : Prop :=
  outP CC H (some (.enter 29 [x0, x1])) fun v1 H1 =>
  m_fieldfarelaw7_MeansNeartttttt K x0 x1 v1 H1
theorem m_fieldfarelaw7_MeansNearttttt_eq (K : AV → AH → Prop) (a : TE) (H : AH) : codeP PP CC (subC (bodyC PP 8) [1, 1, 1, 1, 1]) (m_fieldfarelaw7_MeansNear_K K) a H = m_fieldfarelaw7_MeansNearttttt K (a 0) (a 1) H :=
  have h1 : codeP PP CC (subC (bodyC PP 8) [1, 1, 1, 1, 1]) (m_fieldfarelaw7_MeansNear_K K) a H = codeP PP CC (subC (bodyC PP 8) [1, 1, 1, 1, 1, 0]) (exP (codeP PP CC (subC (bodyC PP 8) [1, 1, 1, 1, 1, 1]) (m_fieldfarelaw7_MeansNear_K K)) (m_fieldfarelaw7_MeansNear_K K)) a H := by kernel_rfl
  have h2 : codeP PP CC (subC (bodyC PP 8) [1, 1, 1, 1, 1, 0]) (exP (codeP PP CC (subC (bodyC PP 8) [1, 1, 1, 1, 1, 1]) (m_fieldfarelaw7_MeansNear_K K)) (m_fieldfarelaw7_MeansNear_K K)) a H = codeP PP CC (subC (bodyC PP 8) [1, 1, 1, 1, 1, 0]) (exP (fun (a : TE) (H : AH) => m_fieldfarelaw7_MeansNeartttttt K (a 0) (a 1) (a 6) H) (m_fieldfarelaw7_MeansNear_K K)) a H := congrArg (fun k : KE => codeP PP CC (subC (bodyC PP 8) [1, 1, 1, 1, 1, 0]) (exP k (m_fieldfarelaw7_MeansNear_K K)) a H) (funext fun a => funext fun H => m_fieldfarelaw7_MeansNeartttttt_eq K a H)
  have h2b : codeP PP CC (subC (bodyC PP 8) [1, 1, 1, 1, 1, 0]) (exP (fun (a : TE) (H : AH) => m_fieldfarelaw7_MeansNeartttttt K (a 0) (a 1) (a 6) H) (m_fieldfarelaw7_MeansNear_K K)) a H = codeP PP CC (subC (bodyC PP 8) [1, 1, 1, 1, 1, 0]) (m_fieldfarelaw7_MeansNearttttt_k K) a H := by kernel_rfl
  have h3 : codeP PP CC (subC (bodyC PP 8) [1, 1, 1, 1, 1, 0]) (m_fieldfarelaw7_MeansNearttttt_k K) a H = m_fieldfarelaw7_MeansNearttttt K (a 0) (a 1) H := by kernel_rfl
  ((h1.trans h2).trans h2b).trans h3
abbrev m_fieldfarelaw7_MeansNeartttt_k (K : AV → AH → Prop) : KP := exP (fun (a : TE) (H : AH) => m_fieldfarelaw7_MeansNearttttt K (a 0) (a 1) H) (m_fieldfarelaw7_MeansNear_K K)
def m_fieldfarelaw7_MeansNeartttt (K : AV → AH → Prop) (x0 x1 : AV) (H : AH) : Prop :=
  outP CC H (some (.enter 26 [x1, (.int .i64 3)])) fun v1 H1 =>
  m_fieldfarelaw7_MeansNearttttt K x0 v1 H1
theorem m_fieldfarelaw7_MeansNeartttt_eq (K : AV → AH → Prop) (a : TE) (H : AH) : codeP PP CC (subC (bodyC PP 8) [1, 1, 1, 1]) (m_fieldfarelaw7_MeansNear_K K) a H = m_fieldfarelaw7_MeansNeartttt K (a 0) (a 1) H :=
  have h1 : codeP PP CC (subC (bodyC PP 8) [1, 1, 1, 1]) (m_fieldfarelaw7_MeansNear_K K) a H = codeP PP CC (subC (bodyC PP 8) [1, 1, 1, 1, 0]) (exP (codeP PP CC (subC (bodyC PP 8) [1, 1, 1, 1, 1]) (m_fieldfarelaw7_MeansNear_K K)) (m_fieldfarelaw7_MeansNear_K K)) a H := by kernel_rfl
  have h2 : codeP PP CC (subC (bodyC PP 8) [1, 1, 1, 1, 0]) (exP (codeP PP CC (subC (bodyC PP 8) [1, 1, 1, 1, 1]) (m_fieldfarelaw7_MeansNear_K K)) (m_fieldfarelaw7_MeansNear_K K)) a H = codeP PP CC (subC (bodyC PP 8) [1, 1, 1, 1, 0]) (exP (fun (a : TE) (H : AH) => m_fieldfarelaw7_MeansNearttttt K (a 0) (a 1) H) (m_fieldfarelaw7_MeansNear_K K)) a H := congrArg (fun k : KE => codeP PP CC (subC (bodyC PP 8) [1, 1, 1, 1, 0]) (exP k (m_fieldfarelaw7_MeansNear_K K)) a H) (funext fun a => funext fun H => m_fieldfarelaw7_MeansNearttttt_eq K a H)
  have h2b : codeP PP CC (subC (bodyC PP 8) [1, 1, 1, 1, 0]) (exP (fun (a : TE) (H : AH) => m_fieldfarelaw7_MeansNearttttt K (a 0) (a 1) H) (m_fieldfarelaw7_MeansNear_K K)) a H = codeP PP CC (subC (bodyC PP 8) [1, 1, 1, 1, 0]) (m_fieldfarelaw7_MeansNeartttt_k K) a H := by kernel_rfl
  have h3 : codeP PP CC (subC (bodyC PP 8) [1, 1, 1, 1, 0]) (m_fieldfarelaw7_MeansNeartttt_k K) a H = m_fieldfarelaw7_MeansNeartttt K (a 0) (a 1) H := by kernel_rfl
  ((h1.trans h2).trans h2b).trans h3
abbrev m_fieldfarelaw7_MeansNearttt_k (K : AV → AH → Prop) : KP := exP (fun (a : TE) (H : AH) => m_fieldfarelaw7_MeansNeartttt K (a 0) (a 1) H) (m_fieldfarelaw7_MeansNear_K K)
def m_fieldfarelaw7_MeansNearttt (K : AV → AH → Prop) (x0 x1 : AV) (H : AH) : Prop :=
  outP CC H (some (.enter 21 [x0, (.int .i64 3), (.int .i64 12)])) fun v1 H1 =>
  m_fieldfarelaw7_MeansNeartttt K v1 x1 H1
theorem m_fieldfarelaw7_MeansNearttt_eq (K : AV → AH → Prop) (a : TE) (H : AH) : codeP PP CC (subC (bodyC PP 8) [1, 1, 1]) (m_fieldfarelaw7_MeansNear_K K) a H = m_fieldfarelaw7_MeansNearttt K (a 0) (a 1) H :=
  have h1 : codeP PP CC (subC (bodyC PP 8) [1, 1, 1]) (m_fieldfarelaw7_MeansNear_K K) a H = codeP PP CC (subC (bodyC PP 8) [1, 1, 1, 0]) (exP (codeP PP CC (subC (bodyC PP 8) [1, 1, 1, 1]) (m_fieldfarelaw7_MeansNear_K K)) (m_fieldfarelaw7_MeansNear_K K)) a H := by kernel_rfl
  have h2 : codeP PP CC (subC (bodyC PP 8) [1, 1, 1, 0]) (exP (codeP PP CC (subC (bodyC PP 8) [1, 1, 1, 1]) (m_fieldfarelaw7_MeansNear_K K)) (m_fieldfarelaw7_MeansNear_K K)) a H = codeP PP CC (subC (bodyC PP 8) [1, 1, 1, 0]) (exP (fun (a : TE) (H : AH) => m_fieldfarelaw7_MeansNeartttt K (a 0) (a 1) H) (m_fieldfarelaw7_MeansNear_K K)) a H := congrArg (fun k : KE => codeP PP CC (subC (bodyC PP 8) [1, 1, 1, 0]) (exP k (m_fieldfarelaw7_MeansNear_K K)) a H) (funext fun a => funext fun H => m_fieldfarelaw7_MeansNeartttt_eq K a H)
  have h2b : codeP PP CC (subC (bodyC PP 8) [1, 1, 1, 0]) (exP (fun (a : TE) (H : AH) => m_fieldfarelaw7_MeansNeartttt K (a 0) (a 1) H) (m_fieldfarelaw7_MeansNear_K K)) a H = codeP PP CC (subC (bodyC PP 8) [1, 1, 1, 0]) (m_fieldfarelaw7_MeansNearttt_k K) a H := by kernel_rfl
  have h3 : codeP PP CC (subC (bodyC PP 8) [1, 1, 1, 0]) (m_fieldfarelaw7_MeansNearttt_k K) a H = m_fieldfarelaw7_MeansNearttt K (a 0) (a 1) H := by kernel_rfl
  ((h1.trans h2).trans h2b).trans h3
abbrev m_fieldfarelaw7_MeansNeartt_k (K : AV → AH → Prop) : KP := exP (fun (a : TE) (H : AH) => m_fieldfarelaw7_MeansNearttt K (a 0) (a 1) H) (m_fieldfarelaw7_MeansNear_K K)
def m_fieldfarelaw7_MeansNeartt (K : AV → AH → Prop) (x0 x1 x5 : AV) (H : AH) : Prop :=
  outP CC H (w_un .not H x5) fun v1 H1 =>
  condP v1
  (K (.bool false) H1)
  (m_fieldfarelaw7_MeansNearttt K x0 x1 H1)
theorem m_fieldfarelaw7_MeansNeartt_eq (K : AV → AH → Prop) (a : TE) (H : AH) : codeP PP CC (subC (bodyC PP 8) [1, 1]) (m_fieldfarelaw7_MeansNear_K K) a H = m_fieldfarelaw7_MeansNeartt K (a 0) (a 1) (a 5) H :=
  have h1 : codeP PP CC (subC (bodyC PP 8) [1, 1]) (m_fieldfarelaw7_MeansNear_K K) a H = codeP PP CC (subC (bodyC PP 8) [1, 1, 0]) (exP (codeP PP CC (subC (bodyC PP 8) [1, 1, 1]) (m_fieldfarelaw7_MeansNear_K K)) (m_fieldfarelaw7_MeansNear_K K)) a H := by kernel_rfl
  have h2 : codeP PP CC (subC (bodyC PP 8) [1, 1, 0]) (exP (codeP PP CC (subC (bodyC PP 8) [1, 1, 1]) (m_fieldfarelaw7_MeansNear_K K)) (m_fieldfarelaw7_MeansNear_K K)) a H = codeP PP CC (subC (bodyC PP 8) [1, 1, 0]) (exP (fun (a : TE) (H : AH) => m_fieldfarelaw7_MeansNearttt K (a 0) (a 1) H) (m_fieldfarelaw7_MeansNear_K K)) a H := congrArg (fun k : KE => codeP PP CC (subC (bodyC PP 8) [1, 1, 0]) (exP k (m_fieldfarelaw7_MeansNear_K K)) a H) (funext fun a => funext fun H => m_fieldfarelaw7_MeansNearttt_eq K a H)
  have h2b : codeP PP CC (subC (bodyC PP 8) [1, 1, 0]) (exP (fun (a : TE) (H : AH) => m_fieldfarelaw7_MeansNearttt K (a 0) (a 1) H) (m_fieldfarelaw7_MeansNear_K K)) a H = codeP PP CC (subC (bodyC PP 8) [1, 1, 0]) (m_fieldfarelaw7_MeansNeartt_k K) a H := by kernel_rfl
  have h3 : codeP PP CC (subC (bodyC PP 8) [1, 1, 0]) (m_fieldfarelaw7_MeansNeartt_k K) a H = m_fieldfarelaw7_MeansNeartt K (a 0) (a 1) (a 5) H := by kernel_rfl
  ((h1.trans h2).trans h2b).trans h3
abbrev m_fieldfarelaw7_MeansNeart_k (K : AV → AH → Prop) : KP := exP (fun (a : TE) (H : AH) => m_fieldfarelaw7_MeansNeartt K (a 0) (a 1) (a 5) H) (m_fieldfarelaw7_MeansNear_K K)
def m_fieldfarelaw7_MeansNeart (K : AV → AH → Prop) (x0 x1 : AV) (H : AH) : Prop :=
  outP CC H (some (.enter 11 [])) fun v1 H1 =>
  m_fieldfarelaw7_MeansNeartt K x0 x1 v1 H1
theorem m_fieldfarelaw7_MeansNeart_eq (K : AV → AH → Prop) (a : TE) (H : AH) : codeP PP CC (subC (bodyC PP 8) [1]) (m_fieldfarelaw7_MeansNear_K K) a H = m_fieldfarelaw7_MeansNeart K (a 0) (a 1) H :=
  have h1 : codeP PP CC (subC (bodyC PP 8) [1]) (m_fieldfarelaw7_MeansNear_K K) a H = codeP PP CC (subC (bodyC PP 8) [1, 0]) (exP (codeP PP CC (subC (bodyC PP 8) [1, 1]) (m_fieldfarelaw7_MeansNear_K K)) (m_fieldfarelaw7_MeansNear_K K)) a H := by kernel_rfl
  have h2 : codeP PP CC (subC (bodyC PP 8) [1, 0]) (exP (codeP PP CC (subC (bodyC PP 8) [1, 1]) (m_fieldfarelaw7_MeansNear_K K)) (m_fieldfarelaw7_MeansNear_K K)) a H = codeP PP CC (subC (bodyC PP 8) [1, 0]) (exP (fun (a : TE) (H : AH) => m_fieldfarelaw7_MeansNeartt K (a 0) (a 1) (a 5) H) (m_fieldfarelaw7_MeansNear_K K)) a H := congrArg (fun k : KE => codeP PP CC (subC (bodyC PP 8) [1, 0]) (exP k (m_fieldfarelaw7_MeansNear_K K)) a H) (funext fun a => funext fun H => m_fieldfarelaw7_MeansNeartt_eq K a H)
  have h2b : codeP PP CC (subC (bodyC PP 8) [1, 0]) (exP (fun (a : TE) (H : AH) => m_fieldfarelaw7_MeansNeartt K (a 0) (a 1) (a 5) H) (m_fieldfarelaw7_MeansNear_K K)) a H = codeP PP CC (subC (bodyC PP 8) [1, 0]) (m_fieldfarelaw7_MeansNeart_k K) a H := by kernel_rfl
  have h3 : codeP PP CC (subC (bodyC PP 8) [1, 0]) (m_fieldfarelaw7_MeansNeart_k K) a H = m_fieldfarelaw7_MeansNeart K (a 0) (a 1) H := by kernel_rfl
  ((h1.trans h2).trans h2b).trans h3
abbrev m_fieldfarelaw7_MeansNear_k (K : AV → AH → Prop) : KP := exP (fun (a : TE) (H : AH) => m_fieldfarelaw7_MeansNeart K (a 0) (a 1) H) (m_fieldfarelaw7_MeansNear_K K)
def m_fieldfarelaw7_MeansNear (K : AV → AH → Prop) (x0 x1 : AV) (H : AH) : Prop :=
  m_fieldfarelaw7_MeansNeart K x0 x1 H
theorem m_fieldfarelaw7_MeansNear_eq (K : AV → AH → Prop) (a : TE) (H : AH) : codeP PP CC (subC (bodyC PP 8) []) (m_fieldfarelaw7_MeansNear_K K) a H = m_fieldfarelaw7_MeansNear K (a 0) (a 1) H :=
  have h1 : codeP PP CC (subC (bodyC PP 8) []) (m_fieldfarelaw7_MeansNear_K K) a H = codeP PP CC (subC (bodyC PP 8) [0]) (exP (codeP PP CC (subC (bodyC PP 8) [1]) (m_fieldfarelaw7_MeansNear_K K)) (m_fieldfarelaw7_MeansNear_K K)) a H := by kernel_rfl
  have h2 : codeP PP CC (subC (bodyC PP 8) [0]) (exP (codeP PP CC (subC (bodyC PP 8) [1]) (m_fieldfarelaw7_MeansNear_K K)) (m_fieldfarelaw7_MeansNear_K K)) a H = codeP PP CC (subC (bodyC PP 8) [0]) (exP (fun (a : TE) (H : AH) => m_fieldfarelaw7_MeansNeart K (a 0) (a 1) H) (m_fieldfarelaw7_MeansNear_K K)) a H := congrArg (fun k : KE => codeP PP CC (subC (bodyC PP 8) [0]) (exP k (m_fieldfarelaw7_MeansNear_K K)) a H) (funext fun a => funext fun H => m_fieldfarelaw7_MeansNeart_eq K a H)
  have h2b : codeP PP CC (subC (bodyC PP 8) [0]) (exP (fun (a : TE) (H : AH) => m_fieldfarelaw7_MeansNeart K (a 0) (a 1) H) (m_fieldfarelaw7_MeansNear_K K)) a H = codeP PP CC (subC (bodyC PP 8) [0]) (m_fieldfarelaw7_MeansNear_k K) a H := by kernel_rfl
  have h3 : codeP PP CC (subC (bodyC PP 8) [0]) (m_fieldfarelaw7_MeansNear_k K) a H = m_fieldfarelaw7_MeansNear K (a 0) (a 1) H := by kernel_rfl
  ((h1.trans h2).trans h2b).trans h3
theorem m_fieldfarelaw7_MeansNear_ok (x0 x1 : AV) (H : AH) (K : AV → AH → Prop) (h : m_fieldfarelaw7_MeansNear K x0 x1 H) : CC.call 8 [x0, x1] H K :=
  have h1 : funP PP CC 8 [x0, x1] H K = codeP PP CC (subC (bodyC PP 8) []) (m_fieldfarelaw7_MeansNear_K K) (argE [x0, x1]) H := by kernel_rfl
  have h2 : m_fieldfarelaw7_MeansNear K (argE [x0, x1] 0) (argE [x0, x1] 1) H = m_fieldfarelaw7_MeansNear K x0 x1 H := by kernel_rfl
  funP_ok (P := PP) (by kernel_rfl) (by kernel_rfl) ((h1.trans ((m_fieldfarelaw7_MeansNear_eq K (argE [x0, x1]) H).trans h2)).mpr h)

end
end Go.Ab
