/- What functions do, said as what the evaluator does. Printed by a program. -/
import Derived.Test.YtjpjmeidpjjgdaaGreatDoorBeg
import Derived.Test.YtjpjmeidpjjgdaaGreatDoorEv3
namespace Go.Ab
noncomputable section
open Go.Proofs
set_option maxRecDepth 100000



/-! 6: fieldfare/fieldfarelaw7.PoolTurn -/
abbrev m_fieldfarelaw7_PoolTurn_K (K : AV → AH → Prop) : KP := finP PP (resC PP 6) K
abbrev m_fieldfarelaw7_PoolTurnttttt_k (K : AV → AH → Prop) : KP := exP (codeP PP CC (subC (bodyC PP 6) [1, 1, 1, 1, 1, 1]) (m_fieldfarelaw7_PoolTurn_K K)) (m_fieldfarelaw7_PoolTurn_K K)
abbrev m_fieldfarelaw7_PoolTurntttttht_k (K : AV → AH → Prop) : KP := blockP 0 (m_fieldfarelaw7_PoolTurnttttt_k K)
abbrev m_fieldfarelaw7_PoolTurnttttthtb_k (K : AV → AH → Prop) (r0 : (AV × AV × AV × AV × AV) → AH → Prop) : KP := exP (fun (a : TE) (H : AH) => r0 (a 1, a 2, a 3, a 10, a 11) H) (m_fieldfarelaw7_PoolTurntttttht_k K)
def m_fieldfarelaw7_PoolTurnttttthtbl (K : AV → AH → Prop) (r0 : (AV × AV × AV × AV × AV) → AH → Prop) (x1 x2 x3 x10 x11 : AV) (H : AH) : Prop :=
  outP CC H (w_len PP 22 H x1) fun v1 H1 =>
  outP CC H1 (w_int .lss H1 x11 v1) fun v2 H2 =>
  guardP (boolIs true v2) H2 (outP CC H2 (some (.val x11 H2))) fun v3 H3 =>
  guardP (boolIs true v2) H3 (outP CC H3 (w_int .lss H3 v3 (.int .i64 20))) fun v4 H4 =>
  outP CC H4 (w_pick H4 v2 v4 (.bool false)) fun v5 H5 =>
  condP v5
  (outP CC H5 (w_indexAddr (.sl 2) H5 x1 x11) fun v6 H6 =>
  outP CC H6 (w_fieldAddr 0 H6 v6) fun v7 H7 =>
  outP CC H7 (w_load none H7 v7) fun v8 H8 =>
  outP CC H8 (w_int .rem H8 v8 (.int .i64 4)) fun v9 H9 =>
  outP CC H9 (w_indexAddr (.sl 2) H9 x1 x11) fun v10 H10 =>
  outP CC H10 (w_fieldAddr 1 H10 v10) fun v11 H11 =>
  outP CC H11 (w_load none H11 v11) fun v12 H12 =>
  outP CC H12 (w_int .rem H12 v12 (.int .i64 20)) fun v13 H13 =>
  outP CC H13 (w_int .add H13 v13 (.int .i64 20)) fun v14 H14 =>
  outP CC H14 (w_int .rem H14 v14 (.int .i64 20)) fun v15 H15 =>
  outP CC H15 (some (.enter 14 [x10, v9, v15])) fun _v16 H16 =>
  outP CC H16 (w_int .add H16 x11 (.int .i64 1)) fun v17 H17 =>
  r0 (x1, x2, x3, x10, v17) H17)
  (outP CC H5 (w_int .rem H5 x2 (.int .i64 5)) fun v18 H18 =>
  outP CC H18 (w_int .add H18 v18 (.int .i64 5)) fun v19 H19 =>
  outP CC H19 (w_int .rem H19 v19 (.int .i64 5)) fun v20 H20 =>
  outP CC H20 (w_int .add H20 (.int .i64 10) v20) fun v21 H21 =>
  outP CC H21 (w_int .rem H21 x3 (.int .i64 80)) fun v22 H22 =>
  outP CC H22 (w_int .add H22 v22 (.int .i64 80)) fun v23 H23 =>
  outP CC H23 (w_int .rem H23 v23 (.int .i64 80)) fun v24 H24 =>
  outP CC H24 (some (.enter 16 [x10])) fun v25 H25 =>
  outP CC H25 (some (.enter 14 [x10, v21, v24])) fun v26 H26 =>
  outP CC H26 (w_int .eql H26 v26 (.int .i64 0)) fun v27 H27 =>
  outP CC H27 (w_int .leq H27 v24 v25) fun v28 H28 =>
  outP CC H28 (w_eq PP .neq 4 false false H28 v27 v28) fun v29 H29 =>
  guardP (boolIs false v29) H29 (outP CC H29 (some (.val v26 H29))) fun v30 H30 =>
  guardP (boolIs false v29) H30 (outP CC H30 (w_int .neq H30 v30 (.int .i64 0))) fun v31 H31 =>
  guardP (boolIs false v29) H31 (outP CC H31 (some (.val v31 H31))) fun v32 H32 =>
  guardP (boolIs true v32) H32 (outP CC H32 (some (.val v26 H32))) fun v33 H33 =>
  guardP (boolIs true v32) H33 (outP CC H33 (w_int .neq H33 v33 (.int .i64 6))) fun v34 H34 =>
  guardP (boolIs true v32) H34 (outP CC H34 (some (.val v34 H34))) fun v35 H35 =>
  guardP (boolIs false v35) H35 (outP CC H35 (some (.val x10 H35))) fun v36 H36 =>
  guardP (boolIs false v35) H36 (outP CC H36 (some (.enter 16 [v36]))) fun v37 H37 =>
  guardP (boolIs false v35) H37 (outP CC H37 (some (.val v25 H37))) fun v38 H38 =>
  guardP (boolIs false v35) H38 (outP CC H38 (w_int .neq H38 v37 v38)) fun v39 H39 =>
  guardP (boolIs true v32) H39 (outP CC H39 (w_pick H39 v35 (.bool true) v39)) fun v40 H40 =>
  guardP (boolIs true v32) H40 (outP CC H40 (some (.val v40 H40))) fun v41 H41 =>
  guardP (boolIs false v41) H41 (outP CC H41 (some (.val x10 H41))) fun v42 H42 =>
  guardP (boolIs false v41) H42 (outP CC H42 (some (.val v21 H42))) fun v43 H43 =>
  guardP (boolIs false v41) H43 (outP CC H43 (some (.enter 18 [v42, v43]))) fun v44 H44 =>
  guardP (boolIs false v41) H44 (outP CC H44 (w_len PP 33 H44 v44)) fun v45 H45 =>
  guardP (boolIs false v41) H45 (outP CC H45 (w_int .neq H45 v45 (.int .i64 0))) fun v46 H46 =>
  guardP (boolIs true v32) H46 (outP CC H46 (w_pick H46 v41 (.bool true) v46)) fun v47 H47 =>
  guardP (boolIs false v29) H47 (outP CC H47 (w_pick H47 v32 v47 (.bool false))) fun v48 H48 =>
  outP CC H48 (w_pick H48 v29 (.bool true) v48) fun v49 H49 =>
  condP v49
  (K (.bool false) H49)
  (outP CC H49 (w_int .eql H49 v26 (.int .i64 0)) fun v50 H50 =>
  guardP (boolIs true v50) H50 (outP CC H50 (some (.val x10 H50))) fun v51 H51 =>
  guardP (boolIs true v50) H51 (outP CC H51 (some (.enter 16 [v51]))) fun v52 H52 =>
  guardP (boolIs true v50) H52 (outP CC H52 (some (.val v25 H52))) fun v53 H53 =>
  guardP (boolIs true v50) H53 (outP CC H53 (some (.val v24 H53))) fun v54 H54 =>
  guardP (boolIs true v50) H54 (outP CC H54 (w_int .sub H54 v53 v54)) fun v55 H55 =>
  guardP (boolIs true v50) H55 (outP CC H55 (w_int .neq H55 v52 v55)) fun v56 H56 =>
  guardP (boolIs true v50) H56 (outP CC H56 (some (.val v56 H56))) fun v57 H57 =>
  guardP (boolIs false v57) H57 (outP CC H57 (some (.val x10 H57))) fun v58 H58 =>
  guardP (boolIs false v57) H58 (outP CC H58 (some (.val v21 H58))) fun v59 H59 =>
  guardP (boolIs false v57) H59 (outP CC H59 (some (.enter 18 [v58, v59]))) fun v60 H60 =>
  guardP (boolIs false v57) H60 (outP CC H60 (w_len PP 33 H60 v60)) fun v61 H61 =>
  guardP (boolIs false v57) H61 (outP CC H61 (some (.val v24 H61))) fun v62 H62 =>
  guardP (boolIs false v57) H62 (outP CC H62 (w_int .neq H62 v61 v62)) fun v63 H63 =>
  guardP (boolIs true v50) H63 (outP CC H63 (w_pick H63 v57 (.bool true) v63)) fun v64 H64 =>
  outP CC H64 (w_pick H64 v50 v64 (.bool false)) fun v65 H65 =>
  condP v65
  (K (.bool false) H65)
  (outP CC H65 (some (.enter 14 [x10, v21, (.int .i64 0)])) fun v66 H66 =>
  outP CC H66 (w_int .eql H66 v66 (.int .i64 0)) fun v67 H67 =>
  guardP (boolIs true v67) H67 (outP CC H67 (some (.val x10 H67))) fun v68 H68 =>
  guardP (boolIs true v67) H68 (outP CC H68 (some (.enter 16 [v68]))) fun v69 H69 =>
  guardP (boolIs true v67) H69 (outP CC H69 (some (.val v25 H69))) fun v70 H70 =>
  guardP (boolIs true v67) H70 (outP CC H70 (w_int .eql H70 v69 v70)) fun v71 H71 =>
  outP CC H71 (w_pick H71 v67 v71 (.bool false)) fun v72 H72 =>
  guardP (boolIs true v72) H72 (outP CC H72 (some (.val x10 H72))) fun v73 H73 =>
  guardP (boolIs true v72) H73 (outP CC H73 (some (.val v21 H73))) fun v74 H74 =>
  guardP (boolIs true v72) H74 (outP CC H74 (some (.enter 18 [v73, v74]))) fun v75 H75 =>
  guardP (boolIs true v72) H75 (outP CC H75 (w_len PP 33 H75 v75)) fun v76 H76 =>
  guardP (boolIs true v72) H76 (outP CC H76 (w_int .eql H76 v76 (.int .i64 0))) fun v77 H77 =>
  outP CC H77 (w_pick H77 v72 v77 (.bool false)) fun v78 H78 =>
  guardP (boolIs true v78) H78 (outP CC H78 (some (.val x10 H78))) fun v79 H79 =>
  guardP (boolIs true v78) H79 (outP CC H79 (some (.val v21 H79))) fun v80 H80 =>
  guardP (boolIs true v78) H80 (outP CC H80 (some (.enter 14 [v79, v80, (.int .i64 (-1))]))) fun v81 H81 =>
  guardP (boolIs true v78) H81 (outP CC H81 (w_int .eql H81 v81 (.int .i64 2))) fun v82 H82 =>
  outP CC H82 (w_pick H82 v78 v82 (.bool false)) fun v83 H83 =>
  K v83 H83)))
theorem m_fieldfarelaw7_PoolTurnttttthtbl_eq (K : AV → AH → Prop) (r0 : (AV × AV × AV × AV × AV) → AH → Prop) (a : TE) (H : AH) : codeP PP CC (subC (bodyC PP 6) [1, 1, 1, 1, 1, 0, 1, 0, 0]) (m_fieldfarelaw7_PoolTurnttttthtb_k K r0) a H = m_fieldfarelaw7_PoolTurnttttthtbl K r0 (a 1) (a 2) (a 3) (a 10) (a 11) H :=
  by kernel_rfl
def m_fieldfarelaw7_PoolTurnttttthtb (K : AV → AH → Prop) (x1 x2 x3 x10 x11 : AV) (H : AH) : Prop :=
  loopP (fun (r0 : (AV × AV × AV × AV × AV) → AH → Prop) (s : (AV × AV × AV × AV × AV)) (H : AH) => m_fieldfarelaw7_PoolTurnttttthtbl K r0 s.1 s.2.1 s.2.2.1 s.2.2.2.1 s.2.2.2.2 H) (x1, x2, x3, x10, x11) H
theorem m_fieldfarelaw7_PoolTurnttttthtb_eq (K : AV → AH → Prop) (a : TE) (H : AH) : codeP PP CC (subC (bodyC PP 6) [1, 1, 1, 1, 1, 0, 1, 0]) (m_fieldfarelaw7_PoolTurntttttht_k K) a H = m_fieldfarelaw7_PoolTurnttttthtb K (a 1) (a 2) (a 3) (a 10) (a 11) H :=
  have h1 : codeP PP CC (subC (bodyC PP 6) [1, 1, 1, 1, 1, 0, 1, 0]) (m_fieldfarelaw7_PoolTurntttttht_k K) a H = loopP (fun (rec : KE) => codeP PP CC (subC (bodyC PP 6) [1, 1, 1, 1, 1, 0, 1, 0, 0]) (exP rec (m_fieldfarelaw7_PoolTurntttttht_k K))) a H := by kernel_rfl
  have h2 := loopP_iso (F := fun (rec : KE) => codeP PP CC (subC (bodyC PP 6) [1, 1, 1, 1, 1, 0, 1, 0, 0]) (exP rec (m_fieldfarelaw7_PoolTurntttttht_k K))) (S := (AV × AV × AV × AV × AV)) (fun a => (a 1, a 2, a 3, a 10, a 11)) (fun (r0 : (AV × AV × AV × AV × AV) → AH → Prop) (s : (AV × AV × AV × AV × AV)) (H : AH) => m_fieldfarelaw7_PoolTurnttttthtbl K r0 s.1 s.2.1 s.2.2.1 s.2.2.2.1 s.2.2.2.2 H) (fun (r0 : (AV × AV × AV × AV × AV) → AH → Prop) (a : TE) (H : AH) => (show codeP PP CC (subC (bodyC PP 6) [1, 1, 1, 1, 1, 0, 1, 0, 0]) (exP (fun (a : TE) (H : AH) => r0 (a 1, a 2, a 3, a 10, a 11) H) (m_fieldfarelaw7_PoolTurntttttht_k K)) a H = codeP PP CC (subC (bodyC PP 6) [1, 1, 1, 1, 1, 0, 1, 0, 0]) (m_fieldfarelaw7_PoolTurnttttthtb_k K r0) a H from by kernel_rfl).trans (m_fieldfarelaw7_PoolTurnttttthtbl_eq K r0 a H)) a H
  h1.trans h2
theorem m_fieldfarelaw7_PoolTurntttttht_eq (K : AV → AH → Prop) (a : TE) (H : AH) : codeP PP CC (subC (bodyC PP 6) [1, 1, 1, 1, 1, 0, 1]) (m_fieldfarelaw7_PoolTurnttttt_k K) a H = m_fieldfarelaw7_PoolTurnttttthtb K (a 1) (a 2) (a 3) (a 10) (a 11) H :=
  have h1 : codeP PP CC (subC (bodyC PP 6) [1, 1, 1, 1, 1, 0, 1]) (m_fieldfarelaw7_PoolTurnttttt_k K) a H = codeP PP CC (subC (bodyC PP 6) [1, 1, 1, 1, 1, 0, 1, 0]) (m_fieldfarelaw7_PoolTurntttttht_k K) a H := by kernel_rfl
  h1.trans (m_fieldfarelaw7_PoolTurnttttthtb_eq K a H)
abbrev m_fieldfarelaw7_PoolTurnttttth_k (K : AV → AH → Prop) : KP := exP (fun (a : TE) (H : AH) => m_fieldfarelaw7_PoolTurnttttthtb K (a 1) (a 2) (a 3) (a 10) (a 11) H) (m_fieldfarelaw7_PoolTurnttttt_k K)
def m_fieldfarelaw7_PoolTurnttttth (K : AV → AH → Prop) (x1 x2 x3 x10 : AV) (H : AH) : Prop :=
  m_fieldfarelaw7_PoolTurnttttthtb K x1 x2 x3 x10 (.int .i64 0) H
theorem m_fieldfarelaw7_PoolTurnttttth_eq (K : AV → AH → Prop) (a : TE) (H : AH) : codeP PP CC (subC (bodyC PP 6) [1, 1, 1, 1, 1, 0]) (m_fieldfarelaw7_PoolTurnttttt_k K) a H = m_fieldfarelaw7_PoolTurnttttth K (a 1) (a 2) (a 3) (a 10) H :=
  have h1 : codeP PP CC (subC (bodyC PP 6) [1, 1, 1, 1, 1, 0]) (m_fieldfarelaw7_PoolTurnttttt_k K) a H = codeP PP CC (subC (bodyC PP 6) [1, 1, 1, 1, 1, 0, 0]) (exP (codeP PP CC (subC (bodyC PP 6) [1, 1, 1, 1, 1, 0, 1]) (m_fieldfarelaw7_PoolTurnttttt_k K)) (m_fieldfarelaw7_PoolTurnttttt_k K)) a H := by kernel_rfl
  have h2 : codeP PP CC (subC (bodyC PP 6) [1, 1, 1, 1, 1, 0, 0]) (exP (codeP PP CC (subC (bodyC PP 6) [1, 1, 1, 1, 1, 0, 1]) (m_fieldfarelaw7_PoolTurnttttt_k K)) (m_fieldfarelaw7_PoolTurnttttt_k K)) a H = codeP PP CC (subC (bodyC PP 6) [1, 1, 1, 1, 1, 0, 0]) (exP (fun (a : TE) (H : AH) => m_fieldfarelaw7_PoolTurnttttthtb K (a 1) (a 2) (a 3) (a 10) (a 11) H) (m_fieldfarelaw7_PoolTurnttttt_k K)) a H := congrArg (fun k : KE => codeP PP CC (subC (bodyC PP 6) [1, 1, 1, 1, 1, 0, 0]) (exP k (m_fieldfarelaw7_PoolTurnttttt_k K)) a H) (funext fun a => funext fun H => m_fieldfarelaw7_PoolTurntttttht_eq K a H)
  have h2b : codeP PP CC (subC (bodyC PP 6) [1, 1, 1, 1, 1, 0, 0]) (exP (fun (a : TE) (H : AH) => m_fieldfarelaw7_PoolTurnttttthtb K (a 1) (a 2) (a 3) (a 10) (a 11) H) (m_fieldfarelaw7_PoolTurnttttt_k K)) a H = codeP PP CC (subC (bodyC PP 6) [1, 1, 1, 1, 1, 0, 0]) (m_fieldfarelaw7_PoolTurnttttth_k K) a H := by kernel_rfl
  have h3 : codeP PP CC (subC (bodyC PP 6) [1, 1, 1, 1, 1, 0, 0]) (m_fieldfarelaw7_PoolTurnttttth_k K) a H = m_fieldfarelaw7_PoolTurnttttth K (a 1) (a 2) (a 3) (a 10) H := by kernel_rfl
  ((h1.trans h2).trans h2b).trans h3
theorem m_fieldfarelaw7_PoolTurnttttt_eq (K : AV → AH → Prop) (a : TE) (H : AH) : codeP PP CC (subC (bodyC PP 6) [1, 1, 1, 1, 1]) (m_fieldfarelaw7_PoolTurn_K K) a H = m_fieldfarelaw7_PoolTurnttttth K (a 1) (a 2) (a 3) (a 10) H :=
  have h1 : codeP PP CC (subC (bodyC PP 6) [1, 1, 1, 1, 1]) (m_fieldfarelaw7_PoolTurn_K K) a H = codeP PP CC (subC (bodyC PP 6) [1, 1, 1, 1, 1, 0]) (m_fieldfarelaw7_PoolTurnttttt_k K) a H := by kernel_rfl
  h1.trans (m_fieldfarelaw7_PoolTurnttttth_eq K a H)
abbrev m_fieldfarelaw7_PoolTurntttt_k (K : AV → AH → Prop) : KP := exP (fun (a : TE) (H : AH) => m_fieldfarelaw7_PoolTurnttttth K (a 1) (a 2) (a 3) (a 10) H) (m_fieldfarelaw7_PoolTurn_K K)
def m_fieldfarelaw7_PoolTurntttt (K : AV → AH → Prop) (x0 x1 x2 x3 : AV) (H : AH) : Prop :=
  outP CC H (some (.enter 12 [x0])) fun v1 H1 =>
  m_fieldfarelaw7_PoolTurnttttth K x1 x2 x3 v1 H1
theorem m_fieldfarelaw7_PoolTurntttt_eq (K : AV → AH → Prop) (a : TE) (H : AH) : codeP PP CC (subC (bodyC PP 6) [1, 1, 1, 1]) (m_fieldfarelaw7_PoolTurn_K K) a H = m_fieldfarelaw7_PoolTurntttt K (a 0) (a 1) (a 2) (a 3) H :=
  have h1 : codeP PP CC (subC (bodyC PP 6) [1, 1, 1, 1]) (m_fieldfarelaw7_PoolTurn_K K) a H = codeP PP CC (subC (bodyC PP 6) [1, 1, 1, 1, 0]) (exP (codeP PP CC (subC (bodyC PP 6) [1, 1, 1, 1, 1]) (m_fieldfarelaw7_PoolTurn_K K)) (m_fieldfarelaw7_PoolTurn_K K)) a H := by kernel_rfl
  have h2 : codeP PP CC (subC (bodyC PP 6) [1, 1, 1, 1, 0]) (exP (codeP PP CC (subC (bodyC PP 6) [1, 1, 1, 1, 1]) (m_fieldfarelaw7_PoolTurn_K K)) (m_fieldfarelaw7_PoolTurn_K K)) a H = codeP PP CC (subC (bodyC PP 6) [1, 1, 1, 1, 0]) (exP (fun (a : TE) (H : AH) => m_fieldfarelaw7_PoolTurnttttth K (a 1) (a 2) (a 3) (a 10) H) (m_fieldfarelaw7_PoolTurn_K K)) a H := congrArg (fun k : KE => codeP PP CC (subC (bodyC PP 6) [1, 1, 1, 1, 0]) (exP k (m_fieldfarelaw7_PoolTurn_K K)) a H) (funext fun a => funext fun H => m_fieldfarelaw7_PoolTurnttttt_eq K a H)
  have h2b : codeP PP CC (subC (bodyC PP 6) [1, 1, 1, 1, 0]) (exP (fun (a : TE) (H : AH) => m_fieldfarelaw7_PoolTurnttttth K (a 1) (a 2) (a 3) (a 10) H) (m_fieldfarelaw7_PoolTurn_K K)) a H = codeP PP CC (subC (bodyC PP 6) [1, 1, 1, 1, 0]) (m_fieldfarelaw7_PoolTurntttt_k K) a H := by kernel_rfl
  have h3 : codeP PP CC (subC (bodyC PP 6) [1, 1, 1, 1, 0]) (m_fieldfarelaw7_PoolTurntttt_k K) a H = m_fieldfarelaw7_PoolTurntttt K (a 0) (a 1) (a 2) (a 3) H := by kernel_rfl
  ((h1.trans h2).trans h2b).trans h3
abbrev m_fieldfarelaw7_PoolTurnttt_k (K : AV → AH → Prop) : KP := exP (fun (a : TE) (H : AH) => m_fieldfarelaw7_PoolTurntttt K (a 0) (a 1) (a 2) (a 3) H) (m_fieldfarelaw7_PoolTurn_K K)
def m_fieldfarelaw7_PoolTurnttt (K : AV → AH → Prop) (x0 x1 x2 x3 : AV) (H : AH) : Prop :=
  outP CC H (w_int .rem H x0 (.int .i64 60)) fun v1 H1 =>
  outP CC H1 (w_int .add H1 v1 (.int .i64 60)) fun v2 H2 =>
  outP CC H2 (w_int .rem H2 v2 (.int .i64 60)) fun v3 H3 =>
  m_fieldfarelaw7_PoolTurntttt K v3 x1 x2 x3 H3
theorem m_fieldfarelaw7_PoolTurnttt_eq (K : AV → AH → Prop) (a : TE) (H : AH) : codeP PP CC (subC (bodyC PP 6) [1, 1, 1]) (m_fieldfarelaw7_PoolTurn_K K) a H = m_fieldfarelaw7_PoolTurnttt K (a 0) (a 1) (a 2) (a 3) H :=
  have h1 : codeP PP CC (subC (bodyC PP 6) [1, 1, 1]) (m_fieldfarelaw7_PoolTurn_K K) a H = codeP PP CC (subC (bodyC PP 6) [1, 1, 1, 0]) (exP (codeP PP CC (subC (bodyC PP 6) [1, 1, 1, 1]) (m_fieldfarelaw7_PoolTurn_K K)) (m_fieldfarelaw7_PoolTurn_K K)) a H := by kernel_rfl
  have h2 : codeP PP CC (subC (bodyC PP 6) [1, 1, 1, 0]) (exP (codeP PP CC (subC (bodyC PP 6) [1, 1, 1, 1]) (m_fieldfarelaw7_PoolTurn_K K)) (m_fieldfarelaw7_PoolTurn_K K)) a H = codeP PP CC (subC (bodyC PP 6) [1, 1, 1, 0]) (exP (fun (a : TE) (H : AH) => m_fieldfarelaw7_PoolTurntttt K (a 0) (a 1) (a 2) (a 3) H) (m_fieldfarelaw7_PoolTurn_K K)) a H := congrArg (fun k : KE => codeP PP CC (subC (bodyC PP 6) [1, 1, 1, 0]) (exP k (m_fieldfarelaw7_PoolTurn_K K)) a H) (funext fun a => funext fun H => m_fieldfarelaw7_PoolTurntttt_eq K a H)
  have h2b : codeP PP CC (subC (bodyC PP 6) [1, 1, 1, 0]) (exP (fun (a : TE) (H : AH) => m_fieldfarelaw7_PoolTurntttt K (a 0) (a 1) (a 2) (a 3) H) (m_fieldfarelaw7_PoolTurn_K K)) a H = codeP PP CC (subC (bodyC PP 6) [1, 1, 1, 0]) (m_fieldfarelaw7_PoolTurnttt_k K) a H := by kernel_rfl
  have h3 : codeP PP CC (subC (bodyC PP 6) [1, 1, 1, 0]) (m_fieldfarelaw7_PoolTurnttt_k K) a H = m_fieldfarelaw7_PoolTurnttt K (a 0) (a 1) (a 2) (a 3) H := by kernel_rfl
  ((h1.trans h2).trans h2b).trans h3
abbrev m_fieldfarelaw7_PoolTurntt_k (K : AV → AH → Prop) : KP := exP (fun (a : TE) (H : AH) => m_fieldfarelaw7_PoolTurnttt K (a 0) (a 1) (a 2) (a 3) H) (m_fieldfarelaw7_PoolTurn_K K)
def m_fieldfarelaw7_PoolTurntt (K : AV → AH → Prop) (x0 x1 x2 x3 x9 : AV) (H : AH) : Prop :=
  outP CC H (w_un .not H x9) fun v1 H1 =>
  condP v1
  (K (.bool false) H1)
  (m_fieldfarelaw7_PoolTurnttt K x0 x1 x2 x3 H1)
theorem m_fieldfarelaw7_PoolTurntt_eq (K : AV → AH → Prop) (a : TE) (H : AH) : codeP PP CC (subC (bodyC PP 6) [1, 1]) (m_fieldfarelaw7_PoolTurn_K K) a H = m_fieldfarelaw7_PoolTurntt K (a 0) (a 1) (a 2) (a 3) (a 9) H :=
  have h1 : codeP PP CC (subC (bodyC PP 6) [1, 1]) (m_fieldfarelaw7_PoolTurn_K K) a H = codeP PP CC (subC (bodyC PP 6) [1, 1, 0]) (exP (codeP PP CC (subC (bodyC PP 6) [1, 1, 1]) (m_fieldfarelaw7_PoolTurn_K K)) (m_fieldfarelaw7_PoolTurn_K K)) a H := by kernel_rfl
  have h2 : codeP PP CC (subC (bodyC PP 6) [1, 1, 0]) (exP (codeP PP CC (subC (bodyC PP 6) [1, 1, 1]) (m_fieldfarelaw7_PoolTurn_K K)) (m_fieldfarelaw7_PoolTurn_K K)) a H = codeP PP CC (subC (bodyC PP 6) [1, 1, 0]) (exP (fun (a : TE) (H : AH) => m_fieldfarelaw7_PoolTurnttt K (a 0) (a 1) (a 2) (a 3) H) (m_fieldfarelaw7_PoolTurn_K K)) a H := congrArg (fun k : KE => codeP PP CC (subC (bodyC PP 6) [1, 1, 0]) (exP k (m_fieldfarelaw7_PoolTurn_K K)) a H) (funext fun a => funext fun H => m_fieldfarelaw7_PoolTurnttt_eq K a H)
  have h2b : codeP PP CC (subC (bodyC PP 6) [1, 1, 0]) (exP (fun (a : TE) (H : AH) => m_fieldfarelaw7_PoolTurnttt K (a 0) (a 1) (a 2) (a 3) H) (m_fieldfarelaw7_PoolTurn_K K)) a H = codeP PP CC (subC (bodyC PP 6) [1, 1, 0]) (m_fieldfarelaw7_PoolTurntt_k K) a H := by kernel_rfl
  have h3 : codeP PP CC (subC (bodyC PP 6) [1, 1, 0]) (m_fieldfarelaw7_PoolTurntt_k K) a H = m_fieldfarelaw7_PoolTurntt K (a 0) (a 1) (a 2) (a 3) (a 9) H := by kernel_rfl
  ((h1.trans h2).trans h2b).trans h3
abbrev m_fieldfarelaw7_PoolTurnt_k (K : AV → AH → Prop) : KP := exP (fun (a : TE) (H : AH) => m_fieldfarelaw7_PoolTurntt K (a 0) (a 1) (a 2) (a 3) (a 9) H) (m_fieldfarelaw7_PoolTurn_K K)
def m_fieldfarelaw7_PoolTurnt (K : AV → AH → Prop) (x0 x1 x2 x3 : AV) (H : AH) : Prop :=
  outP CC H (some (.enter 11 [])) fun v1 H1 =>
  m_fieldfarelaw7_PoolTurntt K x0 x1 x2 x3 v1 H1
theorem m_fieldfarelaw7_PoolTurnt_eq (K : AV → AH → Prop) (a : TE) (H : AH) : codeP PP CC (subC (bodyC PP 6) [1]) (m_fieldfarelaw7_PoolTurn_K K) a H = m_fieldfarelaw7_PoolTurnt K (a 0) (a 1) (a 2) (a 3) H :=
  have h1 : codeP PP CC (subC (bodyC PP 6) [1]) (m_fieldfarelaw7_PoolTurn_K K) a H = codeP PP CC (subC (bodyC PP 6) [1, 0]) (exP (codeP PP CC (subC (bodyC PP 6) [1, 1]) (m_fieldfarelaw7_PoolTurn_K K)) (m_fieldfarelaw7_PoolTurn_K K)) a H := by kernel_rfl
  have h2 : codeP PP CC (subC (bodyC PP 6) [1, 0]) (exP (codeP PP CC (subC (bodyC PP 6) [1, 1]) (m_fieldfarelaw7_PoolTurn_K K)) (m_fieldfarelaw7_PoolTurn_K K)) a H = codeP PP CC (subC (bodyC PP 6) [1, 0]) (exP (fun (a : TE) (H : AH) => m_fieldfarelaw7_PoolTurntt K (a 0) (a 1) (a 2) (a 3) (a 9) H) (m_fieldfarelaw7_PoolTurn_K K)) a H := congrArg (fun k : KE => codeP PP CC (subC (bodyC PP 6) [1, 0]) (exP k (m_fieldfarelaw7_PoolTurn_K K)) a H) (funext fun a => funext fun H => m_fieldfarelaw7_PoolTurntt_eq K a H)
  have h2b : codeP PP CC (subC (bodyC PP 6) [1, 0]) (exP (fun (a : TE) (H : AH) => m_fieldfarelaw7_PoolTurntt K (a 0) (a 1) (a 2) (a 3) (a 9) H) (m_fieldfarelaw7_PoolTurn_K K)) a H = codeP PP CC (subC (bodyC PP 6) [1, 0]) (m_fieldfarelaw7_PoolTurnt_k K) a H := by kernel_rfl
  have h3 : codeP PP CC (subC (bodyC PP 6) [1, 0]) (m_fieldfarelaw7_PoolTurnt_k K) a H = m_fieldfarelaw7_PoolTurnt K (a 0) (a 1) (a 2) (a 3) H := by kernel_rfl
  ((h1.trans h2).trans h2b).trans h3
abbrev m_fieldfarelaw7_PoolTurn_k (K : AV → AH → Prop) : KP := exP (fun (a : TE) (H : AH) => m_fieldfarelaw7_PoolTurnt K (a 0) (a 1) (a 2) (a 3) H) (m_fieldfarelaw7_PoolTurn_K K)
def m_fieldfarelaw7_PoolTurn (K : AV → AH → Prop) (x0 x1 x2 x3 : AV) (H : AH) : Prop :=
  m_fieldfarelaw7_PoolTurnt K x0 x1 x2 x3 H
theorem m_fieldfarelaw7_PoolTurn_eq (K : AV → AH → Prop) (a : TE) (H : AH) : codeP PP CC (subC (bodyC PP 6) []) (m_fieldfarelaw7_PoolTurn_K K) a H = m_fieldfarelaw7_PoolTurn K (a 0) (a 1) (a 2) (a 3) H :=
  have h1 : codeP PP CC (subC (bodyC PP 6) []) (m_fieldfarelaw7_PoolTurn_K K) a H = codeP PP CC (subC (bodyC PP 6) [0]) (exP (codeP PP CC (subC (bodyC PP 6) [1]) (m_fieldfarelaw7_PoolTurn_K K)) (m_fieldfarelaw7_PoolTurn_K K)) a H := by kernel_rfl
  have h2 : codeP PP CC (subC (bodyC PP 6) [0]) (exP (codeP PP CC (subC (bodyC PP 6) [1]) (m_fieldfarelaw7_PoolTurn_K K)) (m_fieldfarelaw7_PoolTurn_K K)) a H = codeP PP CC (subC (bodyC PP 6) [0]) (exP (fun (a : TE) (H : AH) => m_fieldfarelaw7_PoolTurnt K (a 0) (a 1) (a 2) (a 3) H) (m_fieldfarelaw7_PoolTurn_K K)) a H := congrArg (fun k : KE => codeP PP CC (subC (bodyC PP 6) [0]) (exP k (m_fieldfarelaw7_PoolTurn_K K)) a H) (funext fun a => funext fun H => m_fieldfarelaw7_PoolTurnt_eq K a H)
  have h2b : codeP PP CC (subC (bodyC PP 6) [0]) (exP (fun (a : TE) (H : AH) => m_fieldfarelaw7_PoolTurnt K (a 0) (a 1) (a 2) (a 3) H) (m_fieldfarelaw7_PoolTurn_K K)) a H = codeP PP CC (subC (bodyC PP 6) [0]) (m_fieldfarelaw7_PoolTurn_k K) a H := by kernel_rfl
  have h3 : codeP PP CC (subC (bodyC PP 6) [0]) (m_fieldfarelaw7_PoolTurn_k K) a H = m_fieldfarelaw7_PoolTurn K (a 0) (a 1) (a 2) (a 3) H := by kernel_rfl
  ((h1.trans h2).trans h2b).trans h3
theorem m_fieldfarelaw7_PoolTurn_ok (x0 x1 x2 x3 : AV) (H : AH) (K : AV → AH → Prop) (h : m_fieldfarelaw7_PoolTurn K x0 x1 x2 x3 H) : CC.call 6 [x0, x1, x2, x3] H K :=
  have h1 : funP PP CC 6 [x0, x1, x2, x3] H K = codeP PP CC (subC (bodyC PP 6) []) (m_fieldfarelaw7_PoolTurn_K K) (argE [x0, x1, x2, x3]) H := by kernel_rfl
  have h2 : m_fieldfarelaw7_PoolTurn K (argE [x0, x1, x2, x3] 0) (argE [x0, x1, x2, x3] 1) (argE [x0, x1, x2, x3] 2) (argE [x0, x1, x2, x3] 3) H = m_fieldfarelaw7_PoolTurn K x0 x1 x2 x3 H := by kernel_rfl
  funP_ok (P := PP) (by kernel_rfl) (by kernel_rfl) ((h1.trans ((m_fieldfarelaw7_PoolTurn_eq K (argE [x0, x1, x2, x3]) H).trans h2)).mpr h)

end
end Go.Ab
